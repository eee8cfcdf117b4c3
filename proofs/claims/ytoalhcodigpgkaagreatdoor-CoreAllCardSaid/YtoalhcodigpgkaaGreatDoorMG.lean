/- Several texts in one. The log: what fits, what is appended, forced. Printed by a program of ours off the loaded program and our notes; Lean checks it. The log: written, forced. Printed by a program of ours off the loaded program and our notes; Lean checks it. The pool: what is looked for, and found. Printed by a program of ours off the loaded program and our notes; Lean checks it. The pool: what is cleaned. Printed by a program of ours off the loaded program and our notes; Lean checks it. The pool: room is made. Printed by a program of ours off the loaded program and our notes; Lean checks it. The pool: a page asked, put. Printed by a program of ours off the loaded program and our notes; Lean checks it. The pool: a page put, pages flushed. Printed by a program of ours off the loaded program and our notes; Lean checks it. The log: some of its bytes; opened. Printed by a program of ours off the loaded program and our notes; Lean checks it. Images as bytes: what the program's change does. Printed by a program of ours off the loaded program and our notes; Lean checks it. -/
import Derived.Test.YtoalhcodigpgkaaGreatDoorMC
import Derived.Test.YtoalhcodigpgkaaGreatDoorMF
import Derived.Test.YtoalhcodigpgkaaGreatDoorMB
import Derived.Test.YtoalhcodigpgkaaGreatDoorMD

section
namespace Go.Proofs.YtoalhcodigpgkaaGreatDoor.Sx
open Go Go.Sx Go.Pl
variable [Outer]

set_option maxHeartbeats 1000000 in
set_option maxRecDepth 100000 in
theorem wal_Fits {p pd : Value} {l : Log} {H : Chunk} {r : List Chunk} (hl : IsLog 5 2 125 97 p pd l H) {n : Int} (hn : -4611686018427387904 ≤ n ∧ n ≤ 4611686018427387904) : Fun Tryz.prog 30 [p, .int .i64 n] (H :: r) (fun v' hs' => v' = .bool (decide (l.fits n)) ∧ H :: r = hs') := by
  refine Fun.enter 30 Tryz.func30 rfl Tryz.ntmps30 rfl ?_
  obtain ⟨b, ps, v, HS, Ke, hpp, hSup, hE, hone, hH⟩ := hl.is
  subst hpp
  subst hH
  have hrl := hl.ok.ring
  obtain ⟨hob, hof⟩ := hl.ok.order
  have hmo := hl.ok.most
  have hrm := hl.ok.room
  have hfew := hl.ok.few
  refine TT.perm perm3 (.seq (.region (.pures hT 1 rfl (.nil (.seq (.seq (.draw ([(b, blk (logCells pd ps l.ring l.base l.forced l.end_ v l.bad) 97 (0, 0))] :: r) mixed (.takes (fuel := 23) hT [0, 1, 2] kr kr rfl (.takes (fuel := 19) hT [3, 4, 5, 6] kr kr rfl (.split 11 rfl (fun g11 => ?_) (fun g11 => ?_)))))))))))
  ·
    have g11 := of_decide_eq_true g11
    refine AT.takes (fuel := 15) hT [7, 8, 9, 10] kr kr rfl (.split 15 rfl (fun g15 => ?_) (fun g15 => ?_))
    ·
      have g15 := of_decide_eq_true g15
      refine AT.takes (fuel := 7) hT [11, 12, 13, 14, 15, 17, 18, 19] kr kr rfl (.take (fuel := 6) hT 16 rfl rfl kr kr kr rfl (.load rfl (Ld.one hT rfl hz (logc_end hrl))) rfl ?_)
      refine AT.take (fuel := 5) hT 20 rfl rfl kr kr kr rfl (.load rfl (Ld.one hT rfl hz (logc_base hrl))) rfl ?_
      refine AT.takes (fuel := 0) hT [21, 22, 23, 24, 25] kr kr rfl (.done kr sl (.seq (.ret (.of (rs := [.tmp 4]) [_] (([(b, blk (logCells pd ps l.ring l.base l.forced l.end_ v l.bad) 97 (0, 0))] ++ (HS ++ Ke)) :: r) rfl (.tmp rfl .nil) sl ?_))))
      dsimp only [one]
      refine ⟨?_, rfl⟩
      rw [wrap_i64 (n := n + 4) (by omega) (by omega), wrap_i64 (n := (l.end_ : Int) - l.base) (by omega) (by omega), wrap_i64 (n := 65536 - ((l.end_ : Int) - l.base)) (by omega) (by omega)]
      by_cases h : n + 4 ≤ 65536 - ((l.end_ : Int) - l.base)
      · rw [decide_eq_true h, decide_eq_true (show l.fits n from ⟨g11, g15, h⟩)]; rfl
      · rw [decide_eq_false h, decide_eq_false (show ¬ l.fits n from fun hh => h hh.2.2)]; rfl
    ·
      have g15 := of_decide_eq_false g15
      refine AT.takes (fuel := 0) hT [11, 12, 13, 14, 15, 16, 17, 18, 19, 20, 21, 22, 23, 24, 25] kr kr rfl (.done kr sl (.seq (.ret (.of (rs := [.tmp 4]) [_] (([(b, blk (logCells pd ps l.ring l.base l.forced l.end_ v l.bad) 97 (0, 0))] ++ (HS ++ Ke)) :: r) rfl (.tmp rfl .nil) sl ?_))))
      dsimp only [one]
      exact ⟨by rw [decide_eq_false (by unfold Log.fits; omega)]; rfl, rfl⟩
  ·
    have g11 := of_decide_eq_false g11
    refine AT.takes (fuel := 0) hT [7, 8, 9, 10, 11, 12, 13, 14, 15, 16, 17, 18, 19, 20, 21, 22, 23, 24, 25] kr kr rfl (.done kr sl (.seq (.ret (.of (rs := [.tmp 4]) [_] (([(b, blk (logCells pd ps l.ring l.base l.forced l.end_ v l.bad) 97 (0, 0))] ++ (HS ++ Ke)) :: r) rfl (.tmp rfl .nil) sl ?_))))
    dsimp only [one]
    exact ⟨by rw [decide_eq_false (by unfold Log.fits; omega)]; rfl, rfl⟩

set_option maxHeartbeats 4000000 in
set_option maxRecDepth 100000 in
theorem wal_Append {p pd : Value} {l : Log} {H : Chunk} {r : List Chunk} (hl : IsLog 5 2 125 97 p pd l H) {vb : Value} {bs : List UInt8} (hr : Row Go.Sx.encB 1 r vb bs) (hbl : bs.length ≤ 4611686018427387904) (hen : l.end_ ≤ 1152921504606000000) : Fun Tryz.prog 31 [p, vb] (H :: r) (fun v' hs' => ∃ H', hs' = H' :: r ∧ v' = .tuple ⟨[.int .i64 (l.append bs).2.1, .int .i64 (l.append bs).2.2]⟩ ∧ IsLog 5 2 125 97 p pd (l.append bs).1 H') := by
  refine Fun.enter 64 Tryz.func31 rfl Tryz.ntmps31 rfl ?_
  obtain ⟨ab, cb, hvb⟩ := hr.len
  subst hvb
  have hok := Log.append_ok hl.ok hen bs
  obtain ⟨b, ps, v, HS, Ke, hpp, hSup, hE, hone, hH⟩ := hl.is
  subst hpp
  subst hH
  have hrl := hl.ok.ring
  obtain ⟨hob, hof⟩ := hl.ok.order
  have hmo := hl.ok.most
  have hrm := hl.ok.room
  have hfew := hl.ok.few
  refine TT.perm perm3 (.seq (.region (.pures hT 2 rfl (.nil (.seq (.seq (.seq (.region (.pures hT 3 rfl (.nil (.seq (.block (.seq (.region (.pures hT 3 rfl (.pures hT 3 rfl (.load rfl rfl (Ld.one hT rfl hz (logc_bad hrl)) rfl ?_)))))))))))))))))
  refine OT.pures hT 2 rfl (.nil (.seq (.cond rfl (fun c23 => ?_) (fun c23 => ?_))))
  ·
    have ha : (l.append bs) = (l, 0, 5) := by unfold Log.append; rw [if_pos c23]
    rw [ha]
    refine TT.seq (.region (.pures hT 2 rfl (.nil (.seq (.ret (.of (rs := [.tmp 4, .tmp 5]) [_, _] (([(b, blk (logCells pd ps l.ring l.base l.forced l.end_ v l.bad) 97 (0, 0))] ++ (HS ++ Ke)) :: r) rfl (.tmp rfl (.tmp rfl .nil)) sl ?_))))))
    dsimp only [one]
    exact ⟨_, rfl, rfl, hl⟩
  ·
    have c23' : ¬ l.bad = true := by rw [show l.bad = false from c23]; decide
    refine TT.seq (.region (.pures hT 3 rfl (.split 35 rfl (fun g35 => ?_) (fun g35 => ?_))))
    ·
      have g35 := of_decide_eq_true g35
      refine OT.pures hT 4 rfl (.nil (.seq (.cond_true rfl (.seq (.region (.pures hT 2 rfl (.nil (.seq (.ret (.of (rs := [.tmp 4, .tmp 5]) [_, _] (([(b, blk (logCells pd ps l.ring l.base l.forced l.end_ v l.bad) 97 (0, 0))] ++ (HS ++ Ke)) :: r) rfl (.tmp rfl (.tmp rfl .nil)) sl ?_))))))))))
      dsimp only [one]
      have ha : (l.append bs) = (l, 0, 1) := by unfold Log.append; rw [if_neg c23', if_pos (by omega)]
      rw [ha]
      exact ⟨_, rfl, rfl, hl⟩
    ·
      have g35 := of_decide_eq_false g35
      refine OT.pures hT 4 rfl (.nil (.seq (.cond rfl (fun c32 => ?_) (fun c32 => ?_))))
      ·
        have c32 := of_decide_eq_true c32
        have ha : (l.append bs) = (l, 0, 1) := by unfold Log.append; rw [if_neg c23', if_pos (by omega)]
        rw [ha]
        refine TT.seq (.region (.pures hT 2 rfl (.nil (.seq (.ret (.of (rs := [.tmp 4, .tmp 5]) [_, _] (([(b, blk (logCells pd ps l.ring l.base l.forced l.end_ v l.bad) 97 (0, 0))] ++ (HS ++ Ke)) :: r) rfl (.tmp rfl (.tmp rfl .nil)) sl ?_))))))
        dsimp only [one]
        exact ⟨_, rfl, rfl, hl⟩
      ·
        have c32 := of_decide_eq_false c32
        have c32' : ¬ (bs.length < 1 ∨ 60000 < bs.length) := by omega
        refine TT.seq (.region (.pures hT 2 rfl (.call Tryz.call30 rfl rfl rfl rfl (Fun.perm perm3.symm (wal_Fits hl (by omega))) ?_)))
        rintro v_42 hs_42 ⟨rfl, rfl⟩
        refine OT.perm perm3 (.pures hT 2 rfl (.nil (.seq (.cond rfl (fun c39 => ?_) (fun c39 => ?_)))))
        ·
          have c39 : ¬ l.fits bs.length := of_decide_eq_false (by rw [Bool.not_eq_true'] at c39; exact c39)
          have ha : (l.append bs) = (l, 0, 4) := by unfold Log.append; rw [if_neg c23', if_neg c32', if_pos c39]
          rw [ha]
          refine TT.seq (.region (.pures hT 2 rfl (.nil (.seq (.ret (.of (rs := [.tmp 4, .tmp 5]) [_, _] (([(b, blk (logCells pd ps l.ring l.base l.forced l.end_ v l.bad) 97 (0, 0))] ++ (HS ++ Ke)) :: r) rfl (.tmp rfl (.tmp rfl .nil)) sl ?_))))))
          dsimp only [one]
          exact ⟨_, rfl, rfl, hl⟩
        ·
          have c39 : l.fits bs.length := of_decide_eq_true (by rw [Bool.not_eq_false'] at c39; exact c39)
          have hfit := c39
          unfold Log.fits at hfit
          have ha : (l.append bs) = ({ (l.put (be 4 bs.length)).put bs with ends := l.ends ++ [((l.put (be 4 bs.length)).put bs).end_] }, (((l.put (be 4 bs.length)).put bs).end_ : Int), 0) := by unfold Log.append; rw [if_neg c23', if_neg c32', if_neg (by simpa using c39)]
          rw [ha]
          rw [ha] at hok
          have e4 : l.end_ + (be 4 bs.length).length = l.end_ + 4 := by rw [be_length]
          have hrl1 : (ringPut l.ring l.end_ (be 4 bs.length)).length = 65536 := by rw [ringPut_length]; exact hrl
          have hrl2 : (ringPut (ringPut l.ring l.end_ (be 4 bs.length)) (l.end_ + 4) bs).length = 65536 := by rw [ringPut_length]; exact hrl1
          refine TT.region (.pures hT 12 rfl (.reg 12 rfl (v := .int .u8 ((UInt8.ofNat (bs.length / 256 ^ 3)).toNat : Int)) (int_eq (by show IntKind.u8.wrap ((bs.length : Int).fdiv (2 ^ min ((8 * 3 : Nat) : Int).toNat IntKind.i64.bits)) = _; rw [shrK (k := 3) (by omega), byte_of])) ?_))
          refine OT.reg 15 rfl (v := .int .u8 ((UInt8.ofNat (bs.length / 256 ^ 2)).toNat : Int)) (int_eq (by show IntKind.u8.wrap ((bs.length : Int).fdiv (2 ^ min ((8 * 2 : Nat) : Int).toNat IntKind.i64.bits)) = _; rw [shrK (k := 2) (by omega), byte_of])) ?_
          refine OT.reg 18 rfl (v := .int .u8 ((UInt8.ofNat (bs.length / 256 ^ 1)).toNat : Int)) (int_eq (by show IntKind.u8.wrap ((bs.length : Int).fdiv (2 ^ min ((8 * 1 : Nat) : Int).toNat IntKind.i64.bits)) = _; rw [shrK (k := 1) (by omega), byte_of])) ?_
          refine OT.reg 20 rfl (v := .int .u8 ((UInt8.ofNat (bs.length / 256 ^ 0)).toNat : Int)) (int_eq (by rw [Nat.pow_zero, Nat.div_one, byte_of])) ?_
          refine OT.buildSlice (enc := Go.Sx.encB) (xs := (be 4 bs.length)) (xos := [.tmp 12, .tmp 15, .tmp 18, .tmp 20]) el33 rfl rfl rfl rfl rfl (by simp [Value.cells]) (fun _ _ => rfl) rfl (by decide) rfl (fun v_21 H_21 ho_21 => ?_)
          refine OT.call Tryz.call54 rfl rfl rfl rfl (Fun.pull pl (wal_put hrl ho_21.row (by rw [be_length]; omega))) ?_
          rintro v_22 hs_22 ⟨rfl, rfl⟩
          rw [e4]
          refine OT.nil (.blk (.seq (.seq (.region (.pures hT 2 rfl (.call Tryz.call54 rfl rfl rfl rfl (Fun.perm (hs' := [(b, blk (logCells pd ps (ringPut l.ring l.end_ (be 4 bs.length)) l.base l.forced (l.end_ + 4) v l.bad) 97 (0, 0))] :: H_21 :: HS :: Ke :: r) (List.Perm.refl _) (wal_put hrl1 hr.there.there.there (by omega))) ?_))))))
          rintro v_46 hs_46 ⟨rfl, rfl⟩
          refine OT.nil (.seq (.seq (.draw (r) mixed (.takes (fuel := 7) hT [0, 1, 2, 3, 5, 6, 7] kr kr rfl (.all (fuel := 6) [4, 8] kr (by decide) sl ?_)))))
          intro i hi
          simp only [List.mem_cons, List.not_mem_nil, or_false] at hi
          rcases hi with rfl | rfl
          ·
            refine ⟨_, rfl, ?_⟩
            refine OT.load rfl rfl (Ld.slc hT rfl hz (logc_ends hrl2)) rfl ?_
            refine OT.nil (.any (.op (fuel := 5) 8 kr rfl sl (.load rfl rfl (Ld.one hT rfl hz (logc_end hrl2)) rfl ?_)))
            refine OT.nil (.any (.op (fuel := 4) 9 kr rfl sl ?_))
            refine OT.buildSlice (enc := encN) (xs := [l.end_ + 4 + bs.length]) (xos := [.tmp 55]) el95 rfl rfl rfl rfl rfl (by simp [Value.cells]) (fun _ _ => rfl) rfl (by decide) rfl (fun v_56 H_56 ho_56 => ?_)
            refine OT.nil (.any (.op (fuel := 3) 10 kr rfl sl ?_))
            refine OT.append hT el95 rfl rfl rfl rfl pl hE ro rfl (by simp only [List.length_cons, List.length_nil]; omega) rfl (fun v_57 H_57 ho_57 => ?_)
            obtain ⟨a57, c57, hv57⟩ := (ho_57.row (hs := r)).len
            subst hv57
            refine OT.nil (.any (.takes (fuel := 1) hT [11, 12] kr kr rfl (.op (fuel := 0) 13 kr rfl sl (.store hT rfl rfl rfl rfl pl rfl (by rw [logc_length hrl2]; decide) rfl (.inl (Nat.le_refl _)) (logs_ends hrl2 _) ?_))))
            refine OT.nil (.any (.done kr sl (.seq (.seq (.region (.pures hT 3 rfl (.load rfl rfl (Ld.one hT rfl hz (logc_end hrl2)) rfl ?_)))))))
            refine OT.pures hT 2 rfl (.nil (.seq (.ret (.of (rs := [.tmp 4, .tmp 5]) [_, _] (([(b, blk (logCells pd ps (ringPut (ringPut l.ring l.end_ (be 4 bs.length)) (l.end_ + 4) bs) l.base l.forced (l.end_ + 4 + bs.length) (.slice a57 (l.ends ++ [l.end_ + 4 + bs.length]).length c57) l.bad) 97 (0, 0))] ++ (HS ++ H_57)) :: r) rfl (.tmp rfl (.tmp rfl .nil)) sl ?_))))
            dsimp only [one]
            have e : (l.put (be 4 bs.length)).put bs = { l with ring := (ringPut (ringPut l.ring l.end_ (be 4 bs.length)) (l.end_ + 4) bs), end_ := l.end_ + 4 + bs.length } := by simp only [Log.put, be_length]
            rw [e] at hok ⊢
            exact ⟨_, rfl, rfl, ⟨hok, ⟨b, ps, _, HS, H_57, rfl, hSup, ho_57, rfl, rfl⟩⟩⟩
          ·
            refine ⟨_, rfl, ?_⟩
            refine OT.load rfl rfl (Ld.one hT rfl hz (logc_end hrl2)) rfl ?_
            refine OT.nil (.any (.all (fuel := 5) [4, 9] kr (by decide) sl ?_))
            intro i hi
            simp only [List.mem_cons, List.not_mem_nil, or_false] at hi
            rcases hi with rfl | rfl
            ·
              refine ⟨_, rfl, ?_⟩
              refine OT.load rfl rfl (Ld.slc hT rfl hz (logc_ends hrl2)) rfl ?_
              refine OT.nil (.any (.op (fuel := 4) 9 kr rfl sl ?_))
              refine OT.buildSlice (enc := encN) (xs := [l.end_ + 4 + bs.length]) (xos := [.tmp 55]) el95 rfl rfl rfl rfl rfl (by simp [Value.cells]) (fun _ _ => rfl) rfl (by decide) rfl (fun v_56 H_56 ho_56 => ?_)
              refine OT.nil (.any (.op (fuel := 3) 10 kr rfl sl ?_))
              refine OT.append hT el95 rfl rfl rfl rfl pl hE ro rfl (by simp only [List.length_cons, List.length_nil]; omega) rfl (fun v_57 H_57 ho_57 => ?_)
              obtain ⟨a57, c57, hv57⟩ := (ho_57.row (hs := r)).len
              subst hv57
              refine OT.nil (.any (.takes (fuel := 1) hT [11, 12] kr kr rfl (.op (fuel := 0) 13 kr rfl sl (.store hT rfl rfl rfl rfl pl rfl (by rw [logc_length hrl2]; decide) rfl (.inl (Nat.le_refl _)) (logs_ends hrl2 _) ?_))))
              refine OT.nil (.any (.done kr sl (.seq (.seq (.region (.pures hT 3 rfl (.load rfl rfl (Ld.one hT rfl hz (logc_end hrl2)) rfl ?_)))))))
              refine OT.pures hT 2 rfl (.nil (.seq (.ret (.of (rs := [.tmp 4, .tmp 5]) [_, _] (([(b, blk (logCells pd ps (ringPut (ringPut l.ring l.end_ (be 4 bs.length)) (l.end_ + 4) bs) l.base l.forced (l.end_ + 4 + bs.length) (.slice a57 (l.ends ++ [l.end_ + 4 + bs.length]).length c57) l.bad) 97 (0, 0))] ++ (HS ++ H_57)) :: r) rfl (.tmp rfl (.tmp rfl .nil)) sl ?_))))
              dsimp only [one]
              have e : (l.put (be 4 bs.length)).put bs = { l with ring := (ringPut (ringPut l.ring l.end_ (be 4 bs.length)) (l.end_ + 4) bs), end_ := l.end_ + 4 + bs.length } := by simp only [Log.put, be_length]
              rw [e] at hok ⊢
              exact ⟨_, rfl, rfl, ⟨hok, ⟨b, ps, _, HS, H_57, rfl, hSup, ho_57, rfl, rfl⟩⟩⟩
            ·
              refine ⟨_, rfl, ?_⟩
              refine OT.buildSlice (enc := encN) (xs := [l.end_ + 4 + bs.length]) (xos := [.tmp 55]) el95 rfl rfl rfl rfl rfl (by simp [Value.cells]) (fun _ _ => rfl) rfl (by decide) rfl (fun v_56 H_56 ho_56 => ?_)
              refine OT.nil (.any (.op (fuel := 4) 4 kr rfl sl (.load rfl rfl (Ld.slc hT rfl hz (logc_ends hrl2)) rfl ?_)))
              refine OT.nil (.any (.op (fuel := 3) 10 kr rfl sl ?_))
              refine OT.append hT el95 rfl rfl rfl rfl pl hE ro rfl (by simp only [List.length_cons, List.length_nil]; omega) rfl (fun v_57 H_57 ho_57 => ?_)
              obtain ⟨a57, c57, hv57⟩ := (ho_57.row (hs := r)).len
              subst hv57
              refine OT.nil (.any (.takes (fuel := 1) hT [11, 12] kr kr rfl (.op (fuel := 0) 13 kr rfl sl (.store hT rfl rfl rfl rfl pl rfl (by rw [logc_length hrl2]; decide) rfl (.inl (Nat.le_refl _)) (logs_ends hrl2 _) ?_))))
              refine OT.nil (.any (.done kr sl (.seq (.seq (.region (.pures hT 3 rfl (.load rfl rfl (Ld.one hT rfl hz (logc_end hrl2)) rfl ?_)))))))
              refine OT.pures hT 2 rfl (.nil (.seq (.ret (.of (rs := [.tmp 4, .tmp 5]) [_, _] (([(b, blk (logCells pd ps (ringPut (ringPut l.ring l.end_ (be 4 bs.length)) (l.end_ + 4) bs) l.base l.forced (l.end_ + 4 + bs.length) (.slice a57 (l.ends ++ [l.end_ + 4 + bs.length]).length c57) l.bad) 97 (0, 0))] ++ (HS ++ H_57)) :: r) rfl (.tmp rfl (.tmp rfl .nil)) sl ?_))))
              dsimp only [one]
              have e : (l.put (be 4 bs.length)).put bs = { l with ring := (ringPut (ringPut l.ring l.end_ (be 4 bs.length)) (l.end_ + 4) bs), end_ := l.end_ + 4 + bs.length } := by simp only [Log.put, be_length]
              rw [e] at hok ⊢
              exact ⟨_, rfl, rfl, ⟨hok, ⟨b, ps, _, HS, H_57, rfl, hSup, ho_57, rfl, rfl⟩⟩⟩

end Go.Proofs.YtoalhcodigpgkaaGreatDoor.Sx
end

section
namespace Go.Proofs.YtoalhcodigpgkaaGreatDoor.Sx
open Go Go.Sx Go.Pl
variable [Outer]

set_option maxHeartbeats 2000000 in
set_option maxRecDepth 100000 in
theorem wal_write {b : Nat} {ps pd v : Value} {l : Log} {d : Dev} {HS HD : Chunk} {r : List Chunk} {to : Nat} (hl : l.ok) (hturn : l.sup.turn ≤ 4611686018427387904) (hto : to ≤ 1152921504606846976) (hSup : IsSup 5 125 ps pd 0 l.sup HS) (hd : IsDev 83 69 pd d HD) : Fun Tryz.prog 65 [.pointer (some ⟨b, 0, none⟩), .int .i64 (to : Nat)] ([(b, blk (logCells pd ps l.ring l.base l.forced l.end_ v l.bad) 97 (0, 0))] :: HS :: HD :: r) (fun v' hs' => ∃ HS' HD', hs' = [(b, blk (logCells pd ps l.ring l.base l.forced l.end_ v l.bad) 97 (0, 0))] :: HS' :: HD' :: r ∧ v' = .int .i64 (l.write d to).2.2 ∧ IsSup 5 125 ps pd 0 (l.write d to).1 HS' ∧ IsDev 83 69 pd (l.write d to).2.1 HD') := by
  refine Fun.enter 60 Tryz.func65 rfl Tryz.ntmps65 rfl ?_
  have hrl := hl.ring
  obtain ⟨hob, hof⟩ := hl.order
  have hmo := hl.most
  refine TT.seq (.region (.pures hT 1 rfl (.nil (.seq (.seq (.seq (.region (.pures hT 3 rfl (.load rfl rfl (Ld.one hT rfl hz (logc_forced hrl)) rfl ?_)))))))))
  refine OT.pures hT 2 rfl (.nil (.seq (.block (.loop (ι := Nat × Dev × Chunk) (fun j => (j.1) ≤ 36028797018963968 ∧ IsDev 83 69 pd (j.2.1) (j.2.2) ∧ (wrSecs l.ring d (l.forced / 64) (secsTo (l.forced / 64) to)) = wrSecs l.ring (j.2.1) (j.1) (secsTo (j.1) to)) (fun j => secsTo (j.1) to) (fun j => [(0, .pointer (some ⟨b, 0, none⟩)), (1, .int .i64 (to : Nat)), (5, .int .i64 ((j.1) : Nat))]) (fun j => [(b, blk (logCells pd ps l.ring l.base l.forced l.end_ v l.bad) 97 (0, 0))] :: HS :: (j.2.2) :: r) (l.forced / 64, d, HD) ?_ (SubR.cons rfl (SubR.cons rfl (SubR.cons' rfl (by (try dsimp only); exact (int_eq (by rw [Int.tdiv_eq_ediv_of_nonneg (by omega), wrap_i64 (by omega) (by omega)]; omega))) (SubR.nil _)))) sl ?_))))
  · dsimp only
    exact ⟨by omega, hd, rfl⟩
  rintro ⟨k, d2, X⟩ hI
  dsimp only at hI
  obtain ⟨hk, hX, heq⟩ := hI
  show TT _ _ _ [(0, .pointer (some ⟨b, 0, none⟩)), (1, .int .i64 (to : Nat)), (5, .int .i64 (k : Nat))] ([(b, blk (logCells pd ps l.ring l.base l.forced l.end_ v l.bad) 97 (0, 0))] :: HS :: X :: r)
  refine TT.seq (.seq (.region (.pures hT 4 rfl (.nil (.seq (.cond rfl (fun c17 => ?_) (fun c17 => ?_)))))))
  ·
    have c17 := of_decide_eq_true c17
    rw [wrap_i64 (by omega) (by omega)] at c17
    have hst := secsTo_step (k := k) (to := to) (by omega)
    rw [hst, wrSecs] at heq
    refine TT.skip (.seq (.seq (.block (.seq (.region (.pures hT 2 rfl (.pures hT 1 rfl (.reg 6 rfl (v := .int .i64 ((k % 1024 : Nat) : Int)) (int_eq (by rw [Int.tmod_eq_emod_of_nonneg (by omega)]; omega)) (.nil (.seq (.seq (.draw ([(b, blk (logCells pd ps l.ring l.base l.forced l.end_ v l.bad) 97 (0, 0))] :: r) mixed (.takes (fuel := 4) hT [0, 1, 2, 4, 5, 6, 7, 8, 9, 10, 11, 12, 13] kr kr rfl (.take (fuel := 3) hT 3 rfl rfl kr kr kr rfl (.load rfl (Ld.one hT rfl hz rfl)) rfl ?_))))))))))))))
    refine AT.op (fuel := 2) 14 kr rfl sl (.reg 32 rfl (v := .int .i64 ((64 * (k % 1024) : Nat) : Int)) (int_eq (by rw [wrap_i64 (by omega) (by omega)]; omega)) (.reg 35 rfl (v := .int .i64 ((64 * (k % 1024 + 1) : Nat) : Int)) (int_eq (by rw [wrap_i64 (n := ((k % 1024 : Nat) : Int) + 1) (by omega) (by omega), wrap_i64 (by omega) (by omega)]; omega)) (.slice_arr (64 * (k % 1024)) (64 * (k % 1024 + 1)) hT rfl rfl rfl rfl rfl (.inr ⟨_, rfl⟩) (.inr ⟨_, rfl⟩) (by omega) (by omega) (by omega) rfl (.nil (.any (.op (fuel := 1) 15 kr rfl sl (.reg 27 rfl (v := .int .i64 (386 + (k % 1024 : Nat))) (int_eq (wrap_i64 (by omega) (by omega))) (.call Tryz.call46 rfl rfl rfl rfl (Fun.pull (A := X) pl (dev_Write hX (bs := ringSec l.ring (k % 1024)) (Row.of_blk Has.one (fun _ _ => rfl) (by unfold ringSec; rw [List.length_drop, List.length_take, hrl]; omega) (by omega) (by rw [show 0 + 2 + 64 * (k % 1024) * 1 = 2 + 64 * (k % 1024) by omega, show (64 * (k % 1024 + 1) - 64 * (k % 1024)) * 1 = 64 by omega, logc_ring hrl (by omega)]; unfold ringSec; rw [List.drop_take, show 64 * (k % 1024 + 1) - 64 * (k % 1024) = 64 by omega])))) ?_))))))))
    rintro v_37 hs_37 ⟨X2, rfl, rfl, hX2⟩
    refine OT.nil (.any (.takes (fuel := 0) hT [16] kr kr rfl (.done kr sl (.seq (.seq (.region (.pures hT 2 rfl (.nil (.seq (.cond rfl (fun c39 => ?_) (fun c39 => ?_)))))))))))
    ·
      have c39 : (d2.write (386 + (k % 1024 : Nat)) (ringSec l.ring (k % 1024))).2 ≠ 0 := by simpa using c39
      rw [if_pos c39] at heq
      have hw : l.write d to = (l.sup, d2.write (386 + (k % 1024 : Nat)) (ringSec l.ring (k % 1024))) := by unfold Log.write; rw [if_pos (by rw [heq]; exact c39), heq]
      rw [hw]
      refine TT.seq (.region (.pures hT 2 rfl (.nil (.seq (.ret (.of (rs := [.tmp 4]) [_] ([(b, blk (logCells pd ps l.ring l.base l.forced l.end_ v l.bad) 97 (0, 0))] :: HS :: X2 :: r) rfl (.tmp rfl .nil) sl ?_))))))
      dsimp only [one]
      exact ⟨_, _, rfl, rfl, hSup, hX2⟩
    ·
      have c39 : (d2.write (386 + (k % 1024 : Nat)) (ringSec l.ring (k % 1024))).2 = 0 := by simpa using c39
      rw [if_neg (by omega)] at heq
      refine TT.skip (.blk (.seq (.region (.pures hT 3 rfl (.nil (.loop (k + 1, (d2.write (386 + (k % 1024 : Nat)) (ringSec l.ring (k % 1024))).1, X2) ?_ ?_ (SubR.cons rfl (SubR.cons rfl (SubR.cons' rfl (by (try dsimp only); exact (int_eq (by rw [wrap_i64 (by omega) (by omega)]; omega))) (SubR.nil _)))) sl))))))
      · dsimp only
        exact ⟨by omega, hX2, heq⟩
      · dsimp only
        omega
  ·
    have c17 := of_decide_eq_false c17
    rw [wrap_i64 (by omega) (by omega)] at c17
    rw [secsTo_none (k := k) (to := to) (by omega)] at heq
    replace heq : (wrSecs l.ring d (l.forced / 64) (secsTo (l.forced / 64) to)) = (d2, 0) := heq
    refine TT.exit (.seq (.loop (.here (.seq (.seq (.seq (.region (.pures hT 3 rfl (.load rfl rfl (Ld.one hT rfl hz rfl) rfl ?_)))))))))
    refine OT.call Tryz.call25 rfl rfl rfl rfl (Fun.pull (A := X) pl (dev_Flush hX)) ?_
    rintro v_45 hs_45 ⟨X3, rfl, rfl, hX3⟩
    refine OT.pures hT 1 rfl (.nil (.seq (.seq (.region (.pures hT 2 rfl (.nil (.seq (.cond rfl (fun c47 => ?_) (fun c47 => ?_)))))))))
    ·
      have c47 : d2.flush.2 ≠ 0 := by simpa using c47
      have hw : l.write d to = (l.sup, d2.flush) := by unfold Log.write; rw [heq, if_neg (by simp), if_pos c47]
      rw [hw]
      refine TT.seq (.region (.pures hT 2 rfl (.nil (.seq (.ret (.of (rs := [.tmp 4]) [_] ([(b, blk (logCells pd ps l.ring l.base l.forced l.end_ v l.bad) 97 (0, 0))] :: HS :: X3 :: r) rfl (.tmp rfl .nil) sl ?_))))))
      dsimp only [one]
      exact ⟨_, _, rfl, rfl, hSup, hX3⟩
    ·
      have c47 : d2.flush.2 = 0 := by simpa using c47
      have hw : l.write d to = l.sup.save d2.flush.1 0 (logText l.base to) := by unfold Log.write; rw [heq, if_neg (by simp), if_neg (by simpa using c47)]
      rw [hw]
      refine TT.skip (.seq (.seq (.draw ([(b, blk (logCells pd ps l.ring l.base l.forced l.end_ v l.bad) 97 (0, 0))] :: r) mixed (.takes (fuel := 5) hT [0, 1, 2, 4, 5, 6, 8] kr kr rfl (.take (fuel := 4) hT 3 rfl rfl kr kr kr rfl (.load rfl (Ld.one hT rfl hz rfl)) rfl ?_)))))
      refine AT.take (fuel := 3) hT 7 rfl rfl kr kr kr rfl (.load rfl (Ld.one hT rfl hz (logc_base hrl))) rfl ?_
      refine AT.op (fuel := 2) 9 kr rfl sl (.call Tryz.call49 rfl rfl rfl rfl (wal_text (x := l.base) (y := to) (by omega) hto) ?_)
      rintro v_58 hs_58 ⟨HT, rfl, hoT⟩
      refine OT.nil (.any (.op (fuel := 1) 10 kr rfl sl (.call Tryz.call62 rfl rfl rfl rfl (Fun.pull (A := X3) pl (Fun.pull (A := HS) pl (super_Save hSup hX3 (by omega) (by omega) hturn hoT.row))) ?_)))
      rintro v_59 hs_59 ⟨HS1, X4, rfl, rfl, hS1, hX4⟩
      refine OT.nil (.any (.takes (fuel := 0) hT [11] kr kr rfl (.done kr sl (.seq (.ret (.of (rs := [.tmp 4]) [_] ([(b, blk (logCells pd ps l.ring l.base l.forced l.end_ v l.bad) 97 (0, 0))] :: HS1 :: X4 :: r) rfl (.tmp rfl .nil) sl ?_))))))
      dsimp only [one]
      exact ⟨_, _, rfl, rfl, hS1, hX4⟩

set_option maxHeartbeats 4000000 in
set_option maxRecDepth 100000 in
theorem wal_Force {p pd : Value} {l : Log} {H : Chunk} {r : List Chunk} (hl : IsLog 5 2 125 97 p pd l H) {d : Dev} {HD : Chunk} (hd : IsDev 83 69 pd d HD) (hturn : l.sup.turn ≤ 4611686018427387904) {to : Int} : Fun Tryz.prog 40 [p, .int .i64 to] (H :: HD :: r) (fun v' hs' => ∃ H' HD', hs' = H' :: HD' :: r ∧ v' = .int .i64 (l.force d to).2.2 ∧ IsLog 5 2 125 97 p pd (l.force d to).1 H' ∧ IsDev 83 69 pd (l.force d to).2.1 HD') := by
  refine Fun.enter 75 Tryz.func40 rfl Tryz.ntmps40 rfl ?_
  obtain ⟨b, ps, v, HS, Ke, hpp, hSup, hE, hone, hH⟩ := hl.is
  subst hpp
  subst hH
  have hrl := hl.ok.ring
  obtain ⟨hob, hof⟩ := hl.ok.order
  have hmo := hl.ok.most
  have hrm := hl.ok.room
  have hfew := hl.ok.few
  refine TT.perm perm3 ?_
  obtain ⟨av, cv, hv⟩ := (hE.row (hs := r)).len
  subst hv
  refine TT.seq (.region (.pures hT 1 rfl (.nil (.seq (.seq (.seq (.region (.pures hT 3 rfl (.pures hT 3 rfl (.load rfl rfl (Ld.one hT rfl hz (logc_bad hrl)) rfl ?_))))))))))
  refine OT.pures hT 1 rfl (.nil (.seq (.cond rfl (fun c15 => ?_) (fun c15 => ?_))))
  ·
    have hw : (l.force d to) = (l, d, 5) := by unfold Log.force; rw [if_pos c15]
    rw [hw]
    refine TT.seq (.region (.pures hT 1 rfl (.nil (.seq (.ret (.of (rs := [.tmp 4]) [_] (([(b, blk (logCells pd ps l.ring l.base l.forced l.end_ (.slice av l.ends.length cv) l.bad) 97 (0, 0))] ++ (HS ++ Ke)) :: HD :: r) rfl (.tmp rfl .nil) sl ?_))))))
    dsimp only [one]
    exact ⟨_, _, rfl, rfl, hl, hd⟩
  ·
    have c15' : ¬ l.bad = true := by rw [show l.bad = false from c15]; decide
    have hle := lead_le to l.ends
    have hfr := Log.farAt_range hl.ok hle
    rw [← Log.far_eq] at hfr
    refine TT.skip (.seq (.seq (.region (.pures hT 3 rfl (.load rfl rfl (Ld.one hT rfl hz (logc_forced hrl)) rfl ?_)))))
    refine OT.pures hT 2 rfl (.nil (.seq (.cut (ι := Unit) (fun j => True) (fun j => [(0, .pointer (some ⟨b, 0, none⟩)), (1, .int .i64 to), (5, .int .i64 ((l.far to) : Nat)), (6, .int .i64 ((lead to l.ends) : Nat))]) (fun j => [(b, blk (logCells pd ps l.ring l.base l.forced l.end_ (.slice av l.ends.length cv) l.bad) 97 (0, 0))] :: HS :: Ke :: HD :: r) ?_ ?_)))
    ·
      refine TT.block (.loop (ι := Nat) (fun j => (j) ≤ lead to l.ends) (fun j => lead to l.ends - (j)) (fun j => [(0, .pointer (some ⟨b, 0, none⟩)), (1, .int .i64 to), (5, .int .i64 (l.farAt (j) : Nat)), (6, .int .i64 ((j) : Nat))]) (fun j => [(b, blk (logCells pd ps l.ring l.base l.forced l.end_ (.slice av l.ends.length cv) l.bad) 97 (0, 0))] :: HS :: Ke :: HD :: r) (0) ?_ (SubR.cons rfl (SubR.cons rfl (SubR.cons' rfl (by (try dsimp only); exact (rfl)) (SubR.cons rfl (SubR.nil _))))) sl ?_)
      · omega
      rintro i hi
      show TT _ _ _ [(0, .pointer (some ⟨b, 0, none⟩)), (1, .int .i64 to), (5, .int .i64 (l.farAt i : Nat)), (6, .int .i64 (i : Nat))] ([(b, blk (logCells pd ps l.ring l.base l.forced l.end_ (.slice av l.ends.length cv) l.bad) 97 (0, 0))] :: HS :: Ke :: HD :: r)
      refine TT.seq (.seq (.region (.pures hT 4 rfl (.load rfl rfl (Ld.slc hT rfl hz (logc_ends hrl)) rfl ?_))))
      refine OT.pures hT 3 rfl (.split 27 rfl (fun g27 => ?_) (fun g27 => ?_))
      ·
        have g27 := of_decide_eq_true g27
        obtain ⟨e, he⟩ := nth (l := l.ends) (i := i) (by omega)
        refine OT.pures hT 3 rfl (.load rfl rfl (Ld.slc hT rfl hz (logc_ends hrl)) rfl ?_)
        refine OT.pures hT 1 rfl (.index hT rfl rfl rfl rfl ro (by omega) he rfl (fun ad_33 hel_33 => ?_))
        refine OT.load rfl rfl (hel_33.ld_one hT rfl rfl) rfl (.pures hT 3 rfl (.nil (.seq (.cond rfl (fun c37 => ?_) (fun c37 => ?_)))))
        ·
          have c37 := of_decide_eq_true c37
          have hil : i < lead to l.ends := by
            refine Classical.byContradiction fun h => ?_
            obtain rfl : i = lead to l.ends := by omega
            exact lead_end he c37
          refine TT.skip (.seq (.block (.seq (.region (.pures hT 3 rfl (.load rfl rfl (Ld.slc hT rfl hz (logc_ends hrl)) rfl ?_))))))
          refine OT.pures hT 1 rfl (.index hT rfl rfl rfl rfl ro (by omega) he rfl (fun ad_43 hel_43 => ?_))
          refine OT.load rfl rfl (hel_43.ld_one hT rfl rfl) rfl (.pures hT 1 rfl (.nil (.seq (.region (.pures hT 3 rfl (.nil (.blk (.loop (i + 1) ?_ ?_ (SubR.cons rfl (SubR.cons rfl (SubR.cons' rfl (by (try dsimp only); exact (int_eq (by rw [Log.farAt_succ he]))) (SubR.cons' rfl (by (try dsimp only); exact (int_eq (by rw [wrap_i64 (by omega) (by omega)]; omega))) (SubR.nil _))))) sl))))))))
          · omega
          · omega
        ·
          have c37 := of_decide_eq_false c37
          obtain rfl : i = lead to l.ends := by
            refine Classical.byContradiction fun h => ?_
            exact c37 (lead_at (by omega) he)
          refine TT.exit (.seq (.loop (.here (.cut (()) ?_ (SubR.cons rfl (SubR.cons rfl (SubR.cons rfl (SubR.cons rfl (SubR.nil _))))) sl))))
          · trivial
      ·
        have g27 := of_decide_eq_false g27
        obtain rfl : i = lead to l.ends := by omega
        refine OT.pures hT 10 rfl (.nil (.seq (.cond_false rfl (.exit (.seq (.loop (.here (.cut (()) ?_ (SubR.cons rfl (SubR.cons rfl (SubR.cons rfl (SubR.cons rfl (SubR.nil _))))) sl))))))))
        · trivial
    ·
      rintro _ -
      show TT _ _ _ [(0, .pointer (some ⟨b, 0, none⟩)), (1, .int .i64 to), (5, .int .i64 ((l.far to) : Nat)), (6, .int .i64 ((lead to l.ends) : Nat))] ([(b, blk (logCells pd ps l.ring l.base l.forced l.end_ (.slice av l.ends.length cv) l.bad) 97 (0, 0))] :: HS :: Ke :: HD :: r)
      refine TT.seq (.seq (.region (.pures hT 4 rfl (.load rfl rfl (Ld.one hT rfl hz (logc_forced hrl)) rfl ?_))))
      refine OT.pures hT 1 rfl (.nil (.seq (.cond rfl (fun c52 => ?_) (fun c52 => ?_))))
      ·
        have c52 : l.far to = l.forced := by have := eq_of_beq c52; omega
        have hw : (l.force d to) = (l, d, 0) := by unfold Log.force; rw [if_neg c15', if_pos c52]
        rw [hw]
        refine TT.seq (.region (.pures hT 1 rfl (.nil (.seq (.ret (.of (rs := [.tmp 4]) [_] (([(b, blk (logCells pd ps l.ring l.base l.forced l.end_ (.slice av l.ends.length cv) l.bad) 97 (0, 0))] ++ (HS ++ Ke)) :: HD :: r) rfl (.tmp rfl .nil) sl ?_))))))
        dsimp only [one]
        exact ⟨_, _, rfl, rfl, hl, hd⟩
      ·
        have c52 : ¬ l.far to = l.forced := by have := ne_of_beq_false c52; omega
        refine TT.skip (.seq (.seq (.seq (.region (.pures hT 2 rfl (.call Tryz.call65 rfl rfl rfl rfl (Fun.pull (A := HD) pl (Fun.pull (A := HS) pl (Fun.pull pl (wal_write hl.ok hturn (by omega) hSup hd)))) ?_))))))
        rintro v_55 hs_55 ⟨HS1, HD1, rfl, rfl, hS1, hd1⟩
        refine OT.pures hT 1 rfl (.nil (.seq (.seq (.region (.pures hT 2 rfl (.nil (.seq (.cond rfl (fun c57 => ?_) (fun c57 => ?_)))))))))
        ·
          have c57 : (l.write d (l.far to)).2.2 ≠ 0 := by simpa using c57
          have hw : (l.force d to) = ({ l with bad := true, sup := (l.write d (l.far to)).1 }, (l.write d (l.far to)).2) := by unfold Log.force; rw [if_neg c15', if_neg c52, if_pos c57]
          rw [hw]
          refine TT.seq (.region (.pures hT 3 rfl (.store hT rfl rfl rfl rfl pl rfl (by rw [logc_length hrl]; decide) rfl (.inl (Nat.le_refl _)) (logs_bad hrl _) ?_)))
          refine OT.nil (.seq (.seq (.region (.pures hT 2 rfl (.nil (.seq (.ret (.of (rs := [.tmp 4]) [_] (([(b, blk (logCells pd ps l.ring l.base l.forced l.end_ (.slice av l.ends.length cv) true) 97 (0, 0))] ++ (HS1 ++ Ke)) :: HD1 :: r) rfl (.tmp rfl .nil) sl ?_))))))))
          dsimp only [one]
          exact ⟨_, _, rfl, rfl, ⟨Log.bad_ok hl.ok _, ⟨b, ps, _, HS1, Ke, rfl, hS1, hE, rfl, rfl⟩⟩, hd1⟩
        ·
          have c57 : (l.write d (l.far to)).2.2 = 0 := by simpa using c57
          have hw : (l.force d to) = ({ l with forced := (l.far to), ends := l.ends.drop (lead to l.ends), sup := (l.write d (l.far to)).1 }, (l.write d (l.far to)).2.1, 0) := by unfold Log.force; rw [if_neg c15', if_neg c52, if_neg (by omega)]
          rw [hw]
          refine TT.skip (.seq (.seq (.draw (r) mixed (.takes (fuel := 8) hT [0, 1, 2, 3, 4, 5, 7] kr kr rfl (.op (fuel := 7) 6 kr rfl sl (.load rfl rfl (Ld.slc hT rfl hz (logc_ends hrl)) rfl ?_))))))
          refine OT.nil (.any (.takes (fuel := 5) hT [9, 10] kr kr rfl (.all (fuel := 4) [8, 11] kr (by decide) sl ?_)))
          intro i hi
          simp only [List.mem_cons, List.not_mem_nil, or_false] at hi
          rcases hi with rfl | rfl
          ·
            refine ⟨_, rfl, ?_⟩
            refine OT.slice_val (lead to l.ends) l.ends.length hT rfl rfl rfl rfl rfl (.inr ⟨_, rfl⟩) (.inl ⟨rfl, rfl⟩) hle hE.cap.2 rfl (.nil (.any (.op (fuel := 3) 11 kr rfl sl (.store hT rfl rfl rfl rfl pl rfl (by rw [logc_length hrl]; decide) rfl (.inl (Nat.le_refl _)) (logs_forced hrl _) ?_))))
            refine OT.nil (.any (.takes (fuel := 1) hT [12, 13] kr kr rfl (.op (fuel := 0) 14 kr rfl sl (.store hT rfl rfl rfl rfl pl rfl (by rw [logc_length hrl]; decide) rfl (.inl (Nat.le_refl _)) (logs_ends hrl _) ?_))))
            refine OT.nil (.any (.done kr sl (.seq (.seq (.region (.pures hT 1 rfl (.nil (.seq (.ret (.of (rs := [.tmp 4]) [_] (([(b, blk (logCells pd ps l.ring l.base (l.far to) l.end_ _ l.bad) 97 (0, 0))] ++ (HS1 ++ Ke)) :: HD1 :: r) rfl (.tmp rfl .nil) sl ?_))))))))))
            dsimp only [one]
            exact ⟨_, _, rfl, rfl, ⟨Log.drop_ok hl.ok hle _, ⟨b, ps, _, HS1, Ke, rfl, hS1, hE.drop hle, rfl, rfl⟩⟩, hd1⟩
          ·
            refine ⟨_, rfl, ?_⟩
            refine OT.store hT rfl rfl rfl rfl pl rfl (by rw [logc_length hrl]; decide) rfl (.inl (Nat.le_refl _)) (logs_forced hrl _) ?_
            refine OT.nil (.any (.op (fuel := 3) 8 kr rfl sl (.slice_val (lead to l.ends) l.ends.length hT rfl rfl rfl rfl rfl (.inr ⟨_, rfl⟩) (.inl ⟨rfl, rfl⟩) hle hE.cap.2 rfl (.nil (.any (.takes (fuel := 1) hT [12, 13] kr kr rfl (.op (fuel := 0) 14 kr rfl sl (.store hT rfl rfl rfl rfl pl rfl (by rw [logc_length hrl]; decide) rfl (.inl (Nat.le_refl _)) (logs_ends hrl _) ?_))))))))
            refine OT.nil (.any (.done kr sl (.seq (.seq (.region (.pures hT 1 rfl (.nil (.seq (.ret (.of (rs := [.tmp 4]) [_] (([(b, blk (logCells pd ps l.ring l.base (l.far to) l.end_ _ l.bad) 97 (0, 0))] ++ (HS1 ++ Ke)) :: HD1 :: r) rfl (.tmp rfl .nil) sl ?_))))))))))
            dsimp only [one]
            exact ⟨_, _, rfl, rfl, ⟨Log.drop_ok hl.ok hle _, ⟨b, ps, _, HS1, Ke, rfl, hS1, hE.drop hle, rfl, rfl⟩⟩, hd1⟩

end Go.Proofs.YtoalhcodigpgkaaGreatDoor.Sx
end

section
namespace Go.Proofs.YtoalhcodigpgkaaGreatDoor.Sx
open Go Go.Sx Go.Pl
variable [Outer]

set_option maxHeartbeats 1000000 in
set_option maxRecDepth 100000 in
theorem buf_New {bd bl : Nat} {r : List Chunk} : Fun Tryz.prog 27 [.pointer (some ⟨bd, 0, none⟩), .pointer (some ⟨bl, 0, none⟩)] r (fun v' hs' => ∃ H', hs' = H' :: r ∧ IsPool 5 109 100 106 v' (.pointer (some ⟨bd, 0, none⟩)) (.pointer (some ⟨bl, 0, none⟩)) [] H') := by
  refine Fun.enter 9 Tryz.func27 rfl Tryz.ntmps27 rfl ?_
  refine TT.seq (.region (.pures hT 1 rfl (.nil (.seq (.seq (.region (.pures hT 2 rfl (.build hT rfl Tryz.zeroValue100 rfl rfl rfl rfl (.box rfl rfl rfl (fun b_8 => ?_))))))))))
  refine OT.pures hT 1 rfl (.nil (.seq (.ret (.of (rs := [.tmp 4]) [_] (([(b_8, blk _ 100 (0, 0))] ++ ([] ++ [])) :: r) rfl (.tmp rfl .nil) sl ?_))))
  dsimp only [one]
  exact ⟨_, rfl, ⟨b_8, .slice none 0 0, [], [], rfl, rfl, ⟨(fun t h => by cases h), Own.nil, rfl, by simp⟩, rfl⟩⟩

set_option maxHeartbeats 1000000 in
set_option maxRecDepth 100000 in
theorem buf_may {b : Nat} {no : Int} {hs : List Chunk} : Fun Tryz.prog 55 [.pointer (some ⟨b, 0, none⟩), .int .i64 no] hs (fun v' hs' => v' = .int .i64 (mayPool no) ∧ hs = hs') := by
  refine Fun.enter 12 Tryz.func55 rfl Tryz.ntmps55 rfl ?_
  refine TT.seq (.region (.pures hT 1 rfl (.nil (.seq (.seq (.block (.seq (.region (.pures hT 3 rfl (.nil (.seq (.cond_false rfl (.seq (.region (.pures hT 1 rfl (.call Tryz.call45 rfl rfl rfl rfl (page_May) ?_))))))))))))))))
  rintro v_10 hs_10 ⟨rfl, rfl⟩
  refine OT.pures hT 2 rfl (.nil (.seq (.cond rfl (fun c8 => ?_) (fun c8 => ?_))))
  ·
    have c8 : ¬ mayPage no := of_decide_eq_false (by rw [Bool.not_eq_true'] at c8; exact c8)
    refine TT.seq (.region (.pures hT 1 rfl (.nil (.seq (.ret (.of (rs := [.tmp 4]) [_] hs rfl (.tmp rfl .nil) sl ?_))))))
    dsimp only [one]
    exact ⟨by unfold mayPool; rw [if_neg c8], rfl⟩
  ·
    have c8 : mayPage no := of_decide_eq_true (by rw [Bool.not_eq_false'] at c8; exact c8)
    refine TT.skip (.blk (.seq (.seq (.region (.pures hT 1 rfl (.nil (.seq (.ret (.of (rs := [.tmp 4]) [_] hs rfl (.tmp rfl .nil) sl ?_)))))))))
    dsimp only [one]
    exact ⟨by unfold mayPool; rw [if_pos c8], rfl⟩

set_option maxHeartbeats 1000000 in
set_option maxRecDepth 100000 in
theorem buf_may0 {no : Int} {hs : List Chunk} : Fun Tryz.prog 55 [.pointer none, .int .i64 no] hs (fun v' hs' => v' = .int .i64 5 ∧ hs = hs') := by
  refine Fun.enter 12 Tryz.func55 rfl Tryz.ntmps55 rfl ?_
  refine TT.seq (.region (.pures hT 1 rfl (.nil (.seq (.seq (.block (.seq (.region (.pures hT 3 rfl (.nil (.seq (.cond_true rfl (.seq (.region (.pures hT 1 rfl (.nil (.seq (.ret (.of (rs := [.tmp 4]) [_] hs rfl (.tmp rfl .nil) sl ?_)))))))))))))))))))
  dsimp only [one]
  exact ⟨rfl, rfl⟩

set_option maxHeartbeats 1000000 in
set_option maxRecDepth 100000 in
theorem buf_find1 {bf : Nat} {f : Fr} {vb : Value} {hs : List Chunk} (hm : Has hs bf (blk (frCells f vb) 109 (0, 0))) {bx : Nat} {no : Int} {tx : Nat} {fx : Nat × Nat} (hb : Has hs bx (blk [.int .i64 no] tx fx)) : Fun Tryz.prog 81 [.pointer (some ⟨bf, 0, none⟩), .pointer (some ⟨bx, 0, none⟩)] hs (fun v' hs' => v' = .bool (isNo no f) ∧ hs = hs') := by
  refine Fun.enter 10 Tryz.func81 rfl Tryz.ntmps81 rfl ?_
  refine TT.seq (.region (.pures hT 1 rfl (.nil (.seq (.seq (.draw (hs) mixed (.takes (fuel := 4) hT [0, 1, 2] kr kr rfl (.take (fuel := 3) hT 3 rfl rfl kr kr kr rfl (.load rfl (Ld.one hT rfl hm rfl)) rfl (.take (fuel := 2) hT 4 rfl rfl kr kr kr rfl (.load rfl (Ld.one hT rfl hb rfl)) rfl (.takes (fuel := 0) hT [5, 6] kr kr rfl (.done kr sl (.seq (.ret (.of (rs := [.tmp 3]) [_] hs rfl (.tmp rfl .nil) sl ?_))))))))))))))
  dsimp only [one]
  exact ⟨rfl, rfl⟩

set_option maxHeartbeats 1000000 in
set_option maxRecDepth 100000 in
theorem buf_flush1 {bf : Nat} {f : Fr} {vb : Value} {hs : List Chunk} (hm : Has hs bf (blk (frCells f vb) 109 (0, 0))) {bx : Nat} {no : Int} {tx : Nat} {fx : Nat × Nat} (hb : Has hs bx (blk [.int .i64 no] tx fx)) : Fun Tryz.prog 60 [.pointer (some ⟨bf, 0, none⟩), .pointer (some ⟨bx, 0, none⟩)] hs (fun v' hs' => v' = .bool (isNoDirty no f) ∧ hs = hs') := by
  refine Fun.enter 16 Tryz.func60 rfl Tryz.ntmps60 rfl ?_
  refine TT.seq (.region (.pures hT 1 rfl (.nil (.seq (.seq (.draw (hs) mixed (.takes (fuel := 10) hT [0, 1, 2] kr kr rfl (.take (fuel := 9) hT 3 rfl rfl kr kr kr rfl (.load rfl (Ld.one hT rfl hm rfl)) rfl (.take (fuel := 8) hT 4 rfl rfl kr kr kr rfl (.load rfl (Ld.one hT rfl hb rfl)) rfl (.takes (fuel := 6) hT [5, 6] kr kr rfl (.split 10 rfl (fun g10 => ?_) (fun g10 => ?_))))))))))))
  ·
    refine AT.takes (fuel := 3) hT [7, 8, 9] kr kr rfl (.take (fuel := 2) hT 10 rfl rfl kr kr kr rfl (.load rfl (Ld.one hT rfl hm rfl)) rfl (.takes (fuel := 0) hT [11, 12] kr kr rfl (.done kr sl (.seq (.ret (.of (rs := [.tmp 3]) [_] hs rfl (.tmp rfl .nil) sl ?_))))))
    dsimp only [one]
    exact ⟨by unfold isNoDirty; rw [show (f.no == no) = true from g10]; rfl, rfl⟩
  ·
    refine AT.takes (fuel := 0) hT [7, 8, 9, 10, 11, 12] kr kr rfl (.done kr sl (.seq (.ret (.of (rs := [.tmp 3]) [_] hs rfl (.tmp rfl .nil) sl ?_))))
    dsimp only [one]
    exact ⟨by unfold isNoDirty; rw [show (f.no == no) = false from g10]; rfl, rfl⟩

set_option maxHeartbeats 1000000 in
set_option maxRecDepth 100000 in
theorem buf_room1 {bf : Nat} {f : Fr} {vb : Value} {hs : List Chunk} (hm : Has hs bf (blk (frCells f vb) 109 (0, 0))) : Fun Tryz.prog 83 [.pointer (some ⟨bf, 0, none⟩)] hs (fun v' hs' => v' = .bool (isClean f) ∧ hs = hs') := by
  refine Fun.enter 8 Tryz.func83 rfl Tryz.ntmps83 rfl ?_
  refine TT.seq (.region (.pures hT 1 rfl (.nil (.seq (.seq (.region (.pures hT 3 rfl (.load rfl rfl (Ld.one hT rfl hm rfl) rfl (.pures hT 2 rfl (.nil (.seq (.ret (.of (rs := [.tmp 2]) [_] hs rfl (.tmp rfl .nil) sl ?_)))))))))))))
  dsimp only [one]
  exact ⟨rfl, rfl⟩

set_option maxHeartbeats 1000000 in
set_option maxRecDepth 100000 in
theorem sl_IndexFr {v : Value} {ts : List Tr} {q : Tr → Bool} {N : Nat} {caps : List Value} {hs : List Chunk} (hr : Row encV 1 hs v (ptrs ts)) (hl : ts.length ≤ 1073741824) (hcall : ∀ args w, (callFunc N args).run Tryz.prog w = .ok (.enter N args) w) (hF : ∀ t ∈ ts, Fun Tryz.prog N (t.1 :: caps) hs fun v' hs' => v' = .bool (q t) ∧ hs = hs') : Fun Tryz.prog 59 [v, .func (.func N) ⟨[]⟩ ⟨caps⟩] hs (fun v' hs' => v' = .int .i64 (firstAt q 0 ts) ∧ hs = hs') := by
  refine Fun.enter 19 Tryz.func59 rfl Tryz.ntmps59 rfl ?_
  obtain ⟨a0, c0, hv⟩ := hr.len
  subst hv
  have hpl := ptrs_length ts
  refine TT.seq (.region (.pures hT 1 rfl (.nil (.seq (.seq (.seq (.region (.pures hT 3 rfl (.nil (.seq (.block (.loop (ι := Nat) (fun j => (j) ≤ ts.length ∧ firstAt q (j) (ts.drop (j)) = firstAt q 0 ts) (fun j => ts.length - (j)) (fun j => [(0, .slice a0 (ptrs ts).length c0), (1, .func (.func N) ⟨[]⟩ ⟨caps⟩), (7, .int .i64 (ptrs ts).length), (8, .int .i64 ((j) : Nat))]) (fun j => hs) (0) ?_ (SubR.cons rfl (SubR.cons rfl (SubR.cons rfl (SubR.cons rfl (SubR.nil _))))) sl ?_))))))))))))
  · exact ⟨by omega, rfl⟩
  rintro i ⟨hi, hp⟩
  show TT _ _ _ [(0, .slice a0 (ptrs ts).length c0), (1, .func (.func N) ⟨[]⟩ ⟨caps⟩), (7, .int .i64 (ptrs ts).length), (8, .int .i64 (i : Nat))] (hs)
  refine TT.seq (.region (.pures hT 1 rfl (.nil (.seq (.seq (.cond rfl (fun c9 => ?_) (fun c9 => ?_)))))))
  ·
    have c9 := of_decide_eq_true c9
    obtain ⟨t, ht⟩ := nth (l := ts) (i := i) (by omega)
    have hpt := ptrs_at ht
    rw [drop_cons ht, firstAt] at hp
    refine TT.skip (.seq (.seq (.block (.seq (.region (.pures hT 2 rfl (.nil (.seq (.seq (.region (.pures hT 3 rfl (.index hT rfl rfl rfl rfl hr (by omega) hpt rfl (fun ad_14 hel_14 => ?_)))))))))))))
    refine OT.load rfl rfl (hel_14.ld_one hT rfl rfl) rfl ?_
    refine OT.callc hcall rfl rfl rfl rfl (hF t (List.mem_of_getElem? ht)) ?_
    rintro v_16 hs_16 ⟨rfl, rfl⟩
    refine OT.nil (.seq (.cond rfl (fun c16 => ?_) (fun c16 => ?_)))
    ·
      rw [if_pos c16] at hp
      refine TT.seq (.region (.pures hT 2 rfl (.nil (.seq (.ret (.of (rs := [.tmp 4]) [_] hs rfl (.tmp rfl .nil) sl ?_))))))
      dsimp only [one]
      exact ⟨by rw [← hp], rfl⟩
    ·
      rw [if_neg (by simp only [c16]; decide)] at hp
      refine TT.skip (.blk (.seq (.region (.pures hT 2 rfl (.nil (.loop (i + 1) ?_ ?_ (SubR.cons rfl (SubR.cons rfl (SubR.cons rfl (SubR.cons' rfl (by (try dsimp only); exact (int_eq (by rw [wrap_i64 (by omega) (by omega)]; omega))) (SubR.nil _))))) sl))))))
      · exact ⟨by omega, hp⟩
      · omega
  ·
    have c9 := of_decide_eq_false c9
    rw [List.drop_eq_nil_of_le (by omega), firstAt] at hp
    refine TT.exit (.seq (.loop (.here (.seq (.seq (.region (.pures hT 1 rfl (.nil (.seq (.ret (.of (rs := [.tmp 4]) [_] hs rfl (.tmp rfl .nil) sl ?_)))))))))))
    dsimp only [one]
    exact ⟨by rw [← hp], rfl⟩

set_option maxHeartbeats 1000000 in
set_option maxRecDepth 100000 in
theorem sl_DeleteFr {v : Value} {xs : List Value} {i j : Nat} {H : Chunk} {r : List Chunk} (ho : Own encV 1 106 v xs H) (h1 : ones (xs.flatMap encV) = true) (hij : i < j) (hj : j ≤ xs.length) (hl : xs.length ≤ 1073741824) : Fun Tryz.prog 82 [v, .int .i64 (i : Nat), .int .i64 (j : Nat)] (H :: r) (fun v' hs' => ∃ H', hs' = H' :: r ∧ Own encV 1 106 v' (xs.take i ++ xs.drop j) H') := by
  refine Fun.enter 33 Tryz.func82 rfl Tryz.ntmps82 rfl ?_
  obtain ⟨a0, c0, hv⟩ := (ho.row (hs := r)).len
  subst hv
  have hc := ho.cap.2
  have hlt : (xs.take i).length = i := by rw [List.length_take]; omega
  have hld : (xs.drop j).length = xs.length - j := List.length_drop
  have h2 : ones ((xs.drop j).flatMap encV) = true := ones_sub h1 fun x hx => by
    obtain ⟨y, hy, hx⟩ := List.mem_flatMap.1 hx
    exact List.mem_flatMap.2 ⟨y, List.mem_of_mem_drop hy, hx⟩
  refine TT.seq (.region (.pures hT 1 rfl (.nil (.seq (.seq (.region (.pures hT 5 rfl (.slice3 i j xs.length hT rfl rfl rfl ho.row rfl rfl rfl (by omega) (by omega) (by omega) rfl (fun v_13 => ?_)))))))))
  refine OT.nil (.seq (.seq (.seq (.region (.pures hT 3 rfl (.nil (.seq (.cond rfl (fun c16 => ?_) (fun c16 => ?_)))))))))
  ·
    exact absurd (eq_of_beq c16) (by omega)
  ·
    refine TT.skip (.seq (.seq (.region (.pures hT 3 rfl (.nil (.seq (.seq (.draw (r) mixed (.takes (fuel := 4) hT [0, 1, 3, 4] kr kr rfl (.all (fuel := 3) [2, 5] kr (by decide) sl ?_))))))))))
    intro i hi
    simp only [List.mem_cons, List.not_mem_nil, or_false] at hi
    rcases hi with rfl | rfl
    ·
      refine ⟨_, rfl, ?_⟩
      refine OT.slice_to i hT rfl rfl rfl rfl ho (by omega) rfl (fun ho_22 => ?_)
      refine OT.nil (.any (.op (fuel := 2) 5 kr rfl sl (.slice j xs.length hT rfl rfl rfl rfl rfl ho.row (.inr ⟨_, rfl⟩) (.inl ⟨rfl, rfl⟩) (by omega) (by omega) rfl (fun v_25 hv_25 => ?_))))
      refine OT.nil (.any (.op (fuel := 1) 6 kr rfl sl (.append_room hT el98 rfl rfl rfl rfl pl hlt.symm ho_22 hv_25 (by rw [List.take_length]; exact h2) (by rw [hlt, List.take_length, hld]; omega) (by rw [List.take_length, hld]; omega) rfl (fun H_26 ho_26 => ?_))))
      refine OT.nil (.any (.takes (fuel := 0) hT [7] kr kr rfl (.done kr sl (.seq (.seq (.region (.pures hT 4 rfl (.slice_val (i + ((xs.take xs.length).drop j).length) xs.length hT rfl rfl rfl rfl rfl (.inr ⟨_, rfl⟩) (.inr ⟨_, rfl⟩) (by rw [List.take_length, hld]; omega) hc rfl (.clear_spare el98 Tryz.zeroValue106 rfl rfl (by rw [List.length_append, hlt]) rfl rfl pl ho_26 (by rw [List.take_length, hld]; omega) hc (fun H_c ho_c => ?_))))))))))
      refine OT.nil (.seq (.seq (.region (.pures hT 2 rfl (.nil (.seq (.ret (.of (rs := [.tmp 6]) [_] (H_c :: r) rfl (.tmp rfl .nil) sl ?_))))))))
      dsimp only [one]
      exact ⟨_, rfl, by rw [List.take_length] at ho_c ⊢; exact ho_c⟩
    ·
      refine ⟨_, rfl, ?_⟩
      refine OT.slice j xs.length hT rfl rfl rfl rfl rfl ho.row (.inr ⟨_, rfl⟩) (.inl ⟨rfl, rfl⟩) (by omega) (by omega) rfl (fun v_25 hv_25 => ?_)
      refine OT.nil (.any (.op (fuel := 2) 2 kr rfl sl (.slice_to i hT rfl rfl rfl rfl ho (by omega) rfl (fun ho_22 => ?_))))
      refine OT.nil (.any (.op (fuel := 1) 6 kr rfl sl (.append_room hT el98 rfl rfl rfl rfl pl hlt.symm ho_22 hv_25 (by rw [List.take_length]; exact h2) (by rw [hlt, List.take_length, hld]; omega) (by rw [List.take_length, hld]; omega) rfl (fun H_26 ho_26 => ?_))))
      refine OT.nil (.any (.takes (fuel := 0) hT [7] kr kr rfl (.done kr sl (.seq (.seq (.region (.pures hT 4 rfl (.slice_val (i + ((xs.take xs.length).drop j).length) xs.length hT rfl rfl rfl rfl rfl (.inr ⟨_, rfl⟩) (.inr ⟨_, rfl⟩) (by rw [List.take_length, hld]; omega) hc rfl (.clear_spare el98 Tryz.zeroValue106 rfl rfl (by rw [List.length_append, hlt]) rfl rfl pl ho_26 (by rw [List.take_length, hld]; omega) hc (fun H_c ho_c => ?_))))))))))
      refine OT.nil (.seq (.seq (.region (.pures hT 2 rfl (.nil (.seq (.ret (.of (rs := [.tmp 6]) [_] (H_c :: r) rfl (.tmp rfl .nil) sl ?_))))))))
      dsimp only [one]
      exact ⟨_, rfl, by rw [List.take_length] at ho_c ⊢; exact ho_c⟩

set_option maxHeartbeats 2000000 in
set_option maxRecDepth 100000 in
theorem buf_find {b : Nat} {pd pw v : Value} {ts : List Tr} {Kl : Chunk} {r : List Chunk} (hP : PoolAt 5 109 106 v ts Kl) {no : Int} : Fun Tryz.prog 56 [.pointer (some ⟨b, 0, none⟩), .int .i64 no] ([(b, blk [pd, pw, v] 100 (0, 0))] :: Kl :: chunk ts :: r) (fun v' hs' => ∃ v2 K2, hs' = [(b, blk [pd, pw, v2] 100 (0, 0))] :: K2 :: chunk (askedT ts no) :: r ∧ PoolAt 5 109 106 v2 (askedT ts no) K2 ∧ v' = .pointer (findP ts no)) := by
  refine Fun.enter 37 Tryz.func56 rfl Tryz.ntmps56 rfl ?_
  obtain ⟨av, cv, hv⟩ := (hP.own.row (hs := r)).len
  subst hv
  have hown := hP.own
  have hfew := hP.few
  have hpl := ptrs_length ts
  refine TT.seq (.region (.box rfl rfl rfl (fun b_3 => ?_)))
  refine OT.pures hT 1 rfl (.nil (.seq (.seq (.region (.pures hT 3 rfl (.load rfl rfl (Ld.slc hT rfl hz rfl) rfl ?_))))))
  refine OT.pures hT 1 rfl (.call Tryz.call59 rfl rfl rfl rfl (sl_IndexFr (q := fun t : Tr => isNo no t.2.1) (N := 81) (caps := [.pointer (some ⟨b_3, 0, none⟩)]) (hown.row.there.there) hfew Tryz.call81 (fun t ht => by obtain ⟨bf, vb, Kb, h1, h2, h3, h4, h5⟩ := chunk_has hP.all ht; rw [h1]; exact buf_find1 (.there (.there (.there (.here h5)))) Has.one)) ?_)
  rintro v_12 hs_12 ⟨rfl, rfl⟩
  refine OT.pures hT 1 rfl (.nil (.seq (.seq (.seq (.region (.pures hT 2 rfl (.nil (.seq (.cond rfl (fun c14 => ?_) (fun c14 => ?_))))))))))
  ·
    have c14 := of_decide_eq_true c14
    have ha : (askedT ts no) = ts := by unfold askedT; rw [if_pos c14]
    have hfp : findP ts no = none := by unfold findP; rw [if_pos c14]
    rw [ha, hfp]
    refine TT.seq (.region (.pures hT 1 rfl (.nil (.seq (.ret (.of (rs := [.tmp 4]) [_] ([(b, blk [pd, pw, (.slice av (ptrs ts).length cv)] 100 (0, 0))] :: Kl :: chunk ts :: r) rfl (.tmp rfl .nil) sl ?_))))))
    dsimp only [one]
    exact ⟨_, _, rfl, hP, rfl⟩
  ·
    have c14 := of_decide_eq_false c14
    obtain ⟨i, hi, hil⟩ := firstAt_some c14
    obtain ⟨t, ht⟩ := nth (l := ts) (i := i) hil
    have ha : (askedT ts no) = cut ts i ++ [t] := by unfold askedT; rw [if_neg c14, hi, Int.toNat_natCast, toEnd_some ht]
    rw [hi]
    have hpt := ptrs_at ht
    obtain ⟨bf, vb, Kb, hq1, hq2, hq3, hq4, hq5⟩ := chunk_has hP.all (List.mem_of_getElem? ht)
    have hfp : findP ts no = some ⟨bf, 0, none⟩ := by unfold findP; rw [if_neg c14, hi, Int.toNat_natCast, List.getD_eq_getElem?_getD, ht]; simp only [Option.getD_some, hq1, ptrOf]
    rw [hfp]
    refine TT.skip (.seq (.seq (.region (.pures hT 3 rfl (.load rfl rfl (Ld.slc hT rfl hz rfl) rfl ?_)))))
    refine OT.pures hT 1 rfl (.index hT rfl rfl rfl rfl (hown.row.there.there) (by omega) hpt rfl (fun ad_20 hel_20 => ?_))
    refine OT.load rfl rfl (hel_20.ld_one hT rfl rfl) rfl (.pures hT 1 rfl (.nil (.seq (.seq (.region (.pures hT 4 rfl (.load rfl rfl (Ld.slc hT rfl hz rfl) rfl ?_)))))))
    refine OT.pures hT 3 rfl (.reg 29 rfl (v := .int .i64 ((i + 1 : Nat) : Int)) (int_eq (by rw [wrap_i64 (by omega) (by omega)]; omega)) (.call Tryz.call82 rfl rfl rfl rfl (Fun.pull pl (sl_DeleteFr hown (ones_ptrs hP.all) (by omega) (by omega) (by omega))) ?_))
    rintro v_30 hs_30 ⟨H1, rfl, ho1⟩
    refine OT.pures hT 1 rfl ?_
    refine OT.buildSlice (enc := encV) (xs := [t.1]) (xos := [.tmp 31]) el98 rfl rfl rfl rfl (by rw [hq1]; rfl) (by rw [hq1]; simp [Value.cells]) (fun _ _ => rfl) rfl (by decide) rfl (fun v_32 H_32 ho_32 => ?_)
    refine OT.append hT el98 rfl rfl rfl rfl pl ho1 ro (by rw [hq1]; rfl) (by simp only [List.length_append, List.length_take, List.length_drop, List.length_cons, List.length_nil]; omega) rfl (fun v_33 H_33 ho_33 => ?_)
    have how : Own encV 1 106 v_33 (ptrs (askedT ts no)) H_33 := by rw [ha]; unfold ptrs cut at *; simpa using ho_33
    obtain ⟨a33, c33, hv33⟩ := (how.row (hs := r)).len
    subst hv33
    refine OT.pures hT 2 rfl (.store hT rfl rfl rfl rfl pl rfl (Nat.le_of_ble_eq_true rfl) rfl (.inl (Nat.le_refl _)) (cs' := [pd, pw, .slice a33 (ptrs (askedT ts no)).length c33]) rfl ?_)
    refine OT.nil (.seq (.seq (.region (.pures hT 2 rfl (.nil (.seq (.ret (.swap (chunk_perm (askedT_perm ts no)) pl ?_))))))))
    refine RT.of (rs := [.tmp 4]) [_] ([(b, blk [pd, pw, (.slice a33 (ptrs (askedT ts no)).length c33)] 100 (0, 0))] :: H_33 :: chunk (askedT ts no) :: r) rfl (.tmp rfl .nil) sl ?_
    dsimp only [one]
    exact ⟨_, _, rfl, ⟨hP.all.perm (askedT_perm ts no), how, rfl, by rw [← (askedT_perm ts no).length_eq]; exact hfew⟩, hq1⟩


end Go.Proofs.YtoalhcodigpgkaaGreatDoor.Sx
end

section
namespace Go.Proofs.YtoalhcodigpgkaaGreatDoor.Sx
open Go Go.Sx Go.Pl
variable [Outer]

set_option maxHeartbeats 4000000 in
set_option maxRecDepth 100000 in
theorem buf_clean {b : Nat} {pd pw v : Value} {ts : List Tr} {Kl : Chunk} {r : List Chunk} (hP : PoolAt 5 109 106 v ts Kl) {l : Log} {d : Dev} {HL HD : Chunk} (hl : IsLog 5 2 125 97 pw pd l HL) (hd : IsDev 83 69 pd d HD) (hturn : l.sup.turn ≤ 4611686018427387904) {ks : List Nat} (hks : ∀ k ∈ ks, k < ts.length) (hkl : ks.length ≤ 1073741824) {vq : Value} (hq : Row encV 1 r vq (ks.map fun k => (ptrs ts).getD k (.pointer none))) : Fun Tryz.prog 61 [.pointer (some ⟨b, 0, none⟩), vq] ([(b, blk [pd, pw, v] 100 (0, 0))] :: Kl :: chunk ts :: HL :: HD :: r) (fun v' hs' => ∃ us HL' HD', hs' = [(b, blk [pd, pw, v] 100 (0, 0))] :: Kl :: chunk us :: HL' :: HD' :: r ∧ ptrs us = ptrs ts ∧ AllFr 5 109 us ∧ frs us = (poolClean (frs ts) ks l d).1 ∧ v' = .int .i64 (poolClean (frs ts) ks l d).2.2.2 ∧ IsLog 5 2 125 97 pw pd (poolClean (frs ts) ks l d).2.1 HL' ∧ IsDev 83 69 pd (poolClean (frs ts) ks l d).2.2.1 HD') := by
  refine Fun.enter 84 Tryz.func61 rfl Tryz.ntmps61 rfl ?_
  obtain ⟨aq, cq, hvq⟩ := hq.len
  rw [List.length_map] at hvq
  subst hvq
  have hqr := hq
  clear hq
  refine TT.seq (.region (.pures hT 1 rfl (.nil (.seq (.seq (.region (.pures hT 1 rfl (.nil (.seq (.seq (.seq (.region (.pures hT 3 rfl (.nil (.seq (.block (.loop (ι := Nat) (fun j => (j) ≤ ks.length) (fun j => ks.length - (j)) (fun j => [(0, .pointer (some ⟨b, 0, none⟩)), (1, .slice aq ks.length cq), (5, .int .i64 (topLsn (picks (frs ts) (ks.take (j))))), (15, .slice aq ks.length cq), (16, .int .i64 ks.length), (17, .int .i64 ((j) : Nat))]) (fun j => [(b, blk [pd, pw, v] 100 (0, 0))] :: Kl :: chunk ts :: HL :: HD :: r) (0) ?_ (SubR.cons rfl (SubR.cons rfl (SubR.cons' rfl (by (try dsimp only); exact (rfl)) (SubR.cons rfl (SubR.cons rfl (SubR.cons rfl (SubR.nil _))))))) sl ?_)))))))))))))))))
  · omega
  rintro i hi
  show TT _ _ _ [(0, .pointer (some ⟨b, 0, none⟩)), (1, .slice aq ks.length cq), (5, .int .i64 (topLsn (picks (frs ts) (ks.take i)))), (15, .slice aq ks.length cq), (16, .int .i64 ks.length), (17, .int .i64 (i : Nat))] ([(b, blk [pd, pw, v] 100 (0, 0))] :: Kl :: chunk ts :: HL :: HD :: r)
  refine TT.seq (.region (.pures hT 1 rfl (.nil (.seq (.seq (.cond rfl (fun c18 => ?_) (fun c18 => ?_)))))))
  ·
    have c18 := of_decide_eq_true c18
    obtain ⟨k, hk⟩ := nth (l := ks) (i := i) (by omega)
    have hkl := hks k (List.mem_of_getElem? hk)
    obtain ⟨t, ht⟩ := nth (l := ts) (i := k) hkl
    have hq : (ks.map fun k => (ptrs ts).getD k (.pointer none))[i]? = some t.1 := by rw [List.getElem?_map, hk, Option.map_some, List.getD_eq_getElem?_getD, ptrs_at ht]; rfl
    have hft := frs_at ht
    obtain ⟨bf, vb, Kb, hq1, hq2, hq3, hq4, hq5⟩ := chunk_has hP.all (List.mem_of_getElem? ht)
    refine TT.skip (.seq (.seq (.block (.seq (.region (.index hT rfl rfl rfl rfl (hqr.there.there.there.there.there) (by omega) hq rfl (fun ad_19 hel_19 => ?_)))))))
    refine OT.load rfl rfl (hel_19.ld_one hT rfl rfl) rfl (.reg 20 rfl (v := .pointer (some ⟨bf, 0, none⟩)) hq1 (.pures hT 1 rfl (.nil (.seq (.region (.pures hT 4 rfl (.load rfl rfl (Ld.one hT rfl (.there (.there (.here hq5))) rfl) rfl (.pures hT 2 rfl (.nil (.blk (.seq (.region (.pures hT 2 rfl (.nil (.loop (i + 1) ?_ ?_ (SubR.cons rfl (SubR.cons rfl (SubR.cons' rfl (by (try dsimp only); exact (int_eq (by rw [picks_snoc hk hft, topLsn_snoc]))) (SubR.cons rfl (SubR.cons rfl (SubR.cons' rfl (by (try dsimp only); exact (int_eq (by rw [wrap_i64 (by omega) (by omega)]; omega))) (SubR.nil _))))))) sl)))))))))))))))
    · omega
    · omega
  ·
    have c18 := of_decide_eq_false c18
    obtain rfl : i = ks.length := by omega
    rw [List.take_length]
    refine TT.exit (.seq (.loop (.here (.seq (.seq (.seq (.region (.pures hT 3 rfl (.nil (.seq (.cond rfl (fun c30 => ?_) (fun c30 => ?_))))))))))))
    ·
      have c30 : ks = [] := List.eq_nil_of_length_eq_zero (by have := eq_of_beq c30; omega)
      have hw : (poolClean (frs ts) ks l d) = (frs ts, l, d, 0) := by unfold poolClean; rw [if_pos c30]
      rw [hw]
      refine TT.seq (.region (.pures hT 1 rfl (.nil (.seq (.ret (.of (rs := [.tmp 4]) [_] ([(b, blk [pd, pw, v] 100 (0, 0))] :: Kl :: chunk ts :: HL :: HD :: r) rfl (.tmp rfl .nil) sl ?_))))))
      dsimp only [one]
      exact ⟨_, _, _, rfl, rfl, hP.all, rfl, rfl, hl, hd⟩
    ·
      have c30 : ¬ ks = [] := by intro h; rw [h] at c30; simp at c30
      refine TT.skip (.seq (.seq (.seq (.region (.pures hT 3 rfl (.load rfl rfl (Ld.one hT rfl hz rfl) rfl ?_))))))
      refine OT.pures hT 1 rfl (.call Tryz.call40 rfl rfl rfl rfl (Fun.pull (A := HD) pl (Fun.pull pl (wal_Force hl hd hturn))) ?_)
      rintro v_36 hs_36 ⟨H1, HD1, rfl, rfl, hl1, hd1⟩
      refine OT.pures hT 1 rfl (.nil (.seq (.seq (.region (.pures hT 2 rfl (.nil (.seq (.cond rfl (fun c38 => ?_) (fun c38 => ?_)))))))))
      ·
        have c38 : (l.force d (topLsn (picks (frs ts) ks))).2.2 ≠ 0 := by simpa using c38
        have hw : (poolClean (frs ts) ks l d) = (frs ts, (l.force d (topLsn (picks (frs ts) ks)))) := by unfold poolClean; rw [if_neg c30, if_pos c38]
        rw [hw]
        refine TT.seq (.region (.pures hT 2 rfl (.nil (.seq (.ret (.of (rs := [.tmp 4]) [_] ([(b, blk [pd, pw, v] 100 (0, 0))] :: Kl :: chunk ts :: H1 :: HD1 :: r) rfl (.tmp rfl .nil) sl ?_))))))
        dsimp only [one]
        exact ⟨_, _, _, rfl, rfl, hP.all, rfl, rfl, hl1, hd1⟩
      ·
        have c38 : (l.force d (topLsn (picks (frs ts) ks))).2.2 = 0 := by simpa using c38
        refine TT.skip (.seq (.seq (.seq (.region (.pures hT 3 rfl (.nil (.seq (.block (.loop (ι := Nat × Dev × Chunk) (fun j => (j.1) ≤ ks.length ∧ IsDev 83 69 pd (j.2.1) (j.2.2) ∧ (wrFrames (l.force d (topLsn (picks (frs ts) ks))).2.1 (picks (frs ts) ks)) = wrFrames (j.2.1) (picks (frs ts) (ks.drop (j.1)))) (fun j => ks.length - (j.1)) (fun j => [(0, .pointer (some ⟨b, 0, none⟩)), (1, .slice aq ks.length cq), (40, .slice aq ks.length cq), (41, .int .i64 ks.length), (42, .int .i64 ((j.1) : Nat))]) (fun j => [(b, blk [pd, pw, v] 100 (0, 0))] :: Kl :: chunk ts :: H1 :: (j.2.2) :: r) (0, (l.force d (topLsn (picks (frs ts) ks))).2.1, HD1) ?_ (SubR.cons rfl (SubR.cons rfl (SubR.cons rfl (SubR.cons rfl (SubR.cons rfl (SubR.nil _)))))) sl ?_)))))))))
        · dsimp only
          exact ⟨by omega, hd1, rfl⟩
        rintro ⟨i, d2, X⟩ hI
        dsimp only at hI
        obtain ⟨hi, hX, heq⟩ := hI
        show TT _ _ _ [(0, .pointer (some ⟨b, 0, none⟩)), (1, .slice aq ks.length cq), (40, .slice aq ks.length cq), (41, .int .i64 ks.length), (42, .int .i64 (i : Nat))] ([(b, blk [pd, pw, v] 100 (0, 0))] :: Kl :: chunk ts :: H1 :: X :: r)
        refine TT.seq (.region (.pures hT 1 rfl (.nil (.seq (.seq (.cond rfl (fun c43 => ?_) (fun c43 => ?_)))))))
        ·
          have c43 := of_decide_eq_true c43
          obtain ⟨k, hk⟩ := nth (l := ks) (i := i) (by omega)
          have hkl := hks k (List.mem_of_getElem? hk)
          obtain ⟨t, ht⟩ := nth (l := ts) (i := k) hkl
          have hq : (ks.map fun k => (ptrs ts).getD k (.pointer none))[i]? = some t.1 := by rw [List.getElem?_map, hk, Option.map_some, List.getD_eq_getElem?_getD, ptrs_at ht]; rfl
          have hft := frs_at ht
          obtain ⟨bf, vb, Kb, hq1, hq2, hq3, hq4, hq5⟩ := chunk_has hP.all (List.mem_of_getElem? ht)
          rw [picks_drop hk hft, wrFrames] at heq
          refine TT.skip (.seq (.seq (.block (.seq (.region (.index hT rfl rfl rfl rfl (hqr.there.there.there.there.there) (by omega) hq rfl (fun ad_44 hel_44 => ?_)))))))
          refine OT.load rfl rfl (hel_44.ld_one hT rfl rfl) rfl (.reg 45 rfl (v := .pointer (some ⟨bf, 0, none⟩)) hq1 (.pures hT 1 rfl (.nil (.seq (.seq (.draw ([(b, blk [pd, pw, v] 100 (0, 0))] :: Kl :: chunk ts :: r) mixed (.takes (fuel := 5) hT [0, 1, 2, 4, 5, 6, 8, 9, 10] kr kr rfl (.take (fuel := 4) hT 3 rfl rfl kr kr kr rfl (.load rfl (Ld.one hT rfl hz rfl)) rfl ?_))))))))
          refine AT.take (fuel := 3) hT 7 rfl rfl kr kr kr rfl (.load rfl (Ld.one hT rfl (.there (.there (.here hq5))) rfl)) rfl (.take (fuel := 2) hT 11 rfl rfl kr kr kr rfl (.load rfl (Ld.slc hT rfl (.there (.there (.here hq5))) rfl)) rfl (.op (fuel := 1) 12 kr rfl sl (.call Tryz.call24 rfl rfl rfl rfl (Fun.pull (A := X) pl (page_Write hX (chunk_row (List.mem_of_getElem? ht) hq2 hq4).there.there)) ?_)))
          rintro v_58 hs_58 ⟨X2, rfl, rfl, hX2⟩
          refine OT.nil (.any (.takes (fuel := 0) hT [13] kr kr rfl (.done kr sl (.seq (.seq (.region (.pures hT 2 rfl (.nil (.seq (.cond rfl (fun c60 => ?_) (fun c60 => ?_)))))))))))
          ·
            have c60 : (writePage d2 t.2.1.no t.2.1.b).2 ≠ 0 := by simpa using c60
            rw [if_pos c60] at heq
            have hw : (poolClean (frs ts) ks l d) = (frs ts, (l.force d (topLsn (picks (frs ts) ks))).1, writePage d2 t.2.1.no t.2.1.b) := by unfold poolClean; rw [if_neg c30, if_neg (by omega), if_pos (by rw [heq]; exact c60), heq]
            rw [hw]
            refine TT.seq (.region (.pures hT 2 rfl (.nil (.seq (.ret (.of (rs := [.tmp 4]) [_] ([(b, blk [pd, pw, v] 100 (0, 0))] :: Kl :: chunk ts :: H1 :: X2 :: r) rfl (.tmp rfl .nil) sl ?_))))))
            dsimp only [one]
            exact ⟨_, _, _, rfl, rfl, hP.all, rfl, rfl, hl1, hX2⟩
          ·
            have c60 : (writePage d2 t.2.1.no t.2.1.b).2 = 0 := by simpa using c60
            rw [if_neg (by omega)] at heq
            refine TT.skip (.blk (.seq (.region (.pures hT 2 rfl (.nil (.loop (i + 1, (writePage d2 t.2.1.no t.2.1.b).1, X2) ?_ ?_ (SubR.cons rfl (SubR.cons rfl (SubR.cons rfl (SubR.cons rfl (SubR.cons' rfl (by (try dsimp only); exact (int_eq (by rw [wrap_i64 (by omega) (by omega)]; omega))) (SubR.nil _)))))) sl))))))
            · dsimp only
              exact ⟨by omega, hX2, heq⟩
            · dsimp only
              omega
        ·
          have c43 := of_decide_eq_false c43
          obtain rfl : i = ks.length := by omega
          rw [List.drop_length] at heq
          replace heq : (wrFrames (l.force d (topLsn (picks (frs ts) ks))).2.1 (picks (frs ts) ks)) = (d2, 0) := heq
          refine TT.exit (.seq (.loop (.here (.seq (.seq (.seq (.region (.pures hT 3 rfl (.load rfl rfl (Ld.one hT rfl hz rfl) rfl ?_)))))))))
          refine OT.call Tryz.call25 rfl rfl rfl rfl (Fun.pull (A := X) pl (dev_Flush hX)) ?_
          rintro v_67 hs_67 ⟨X3, rfl, rfl, hX3⟩
          refine OT.pures hT 1 rfl (.nil (.seq (.seq (.region (.pures hT 2 rfl (.nil (.seq (.cond rfl (fun c69 => ?_) (fun c69 => ?_)))))))))
          ·
            have c69 : d2.flush.2 ≠ 0 := by simpa using c69
            have hw : (poolClean (frs ts) ks l d) = (frs ts, (l.force d (topLsn (picks (frs ts) ks))).1, d2.flush) := by unfold poolClean; rw [if_neg c30, if_neg (by omega), heq, if_neg (by simp), if_pos c69]
            rw [hw]
            refine TT.seq (.region (.pures hT 2 rfl (.nil (.seq (.ret (.of (rs := [.tmp 4]) [_] ([(b, blk [pd, pw, v] 100 (0, 0))] :: Kl :: chunk ts :: H1 :: X3 :: r) rfl (.tmp rfl .nil) sl ?_))))))
            dsimp only [one]
            exact ⟨_, _, _, rfl, rfl, hP.all, rfl, rfl, hl1, hX3⟩
          ·
            have c69 : d2.flush.2 = 0 := by simpa using c69
            have hw : (poolClean (frs ts) ks l d) = (cleaned (frs ts) ks, (l.force d (topLsn (picks (frs ts) ks))).1, d2.flush.1, 0) := by unfold poolClean; rw [if_neg c30, if_neg (by omega), heq, if_neg (by simp), if_neg (by simpa using c69)]
            rw [hw]
            refine TT.skip (.seq (.seq (.seq (.region (.pures hT 3 rfl (.nil (.seq (.block (.loop (ι := Nat × (List Tr)) (fun j => (j.1) ≤ ks.length ∧ ptrs (j.2) = ptrs ts ∧ AllFr 5 109 (j.2) ∧ frs (j.2) = cleaned (frs ts) (ks.take (j.1))) (fun j => ks.length - (j.1)) (fun j => [(0, .pointer (some ⟨b, 0, none⟩)), (1, .slice aq ks.length cq), (71, .slice aq ks.length cq), (72, .int .i64 ks.length), (73, .int .i64 ((j.1) : Nat))]) (fun j => [(b, blk [pd, pw, v] 100 (0, 0))] :: Kl :: chunk (j.2) :: H1 :: X3 :: r) (0, ts) ?_ (SubR.cons rfl (SubR.cons rfl (SubR.cons rfl (SubR.cons rfl (SubR.cons rfl (SubR.nil _)))))) sl ?_)))))))))
            · dsimp only
              exact ⟨by omega, rfl, hP.all, rfl⟩
            rintro ⟨i, us⟩ hI
            dsimp only at hI
            obtain ⟨hi, hpu, hau, hfu⟩ := hI
            show TT _ _ _ [(0, .pointer (some ⟨b, 0, none⟩)), (1, .slice aq ks.length cq), (71, .slice aq ks.length cq), (72, .int .i64 ks.length), (73, .int .i64 (i : Nat))] ([(b, blk [pd, pw, v] 100 (0, 0))] :: Kl :: chunk us :: H1 :: X3 :: r)
            refine TT.seq (.region (.pures hT 1 rfl (.nil (.seq (.seq (.cond rfl (fun c74 => ?_) (fun c74 => ?_)))))))
            ·
              have c74 := of_decide_eq_true c74
              have hul : us.length = ts.length := by rw [← ptrs_length us, hpu, ptrs_length]
              obtain ⟨k, hk⟩ := nth (l := ks) (i := i) (by omega)
              have hkl := hks k (List.mem_of_getElem? hk)
              obtain ⟨t, ht⟩ := nth (l := us) (i := k) (by omega)
              have hq : (ks.map fun k => (ptrs ts).getD k (.pointer none))[i]? = some t.1 := by rw [List.getElem?_map, hk, Option.map_some, List.getD_eq_getElem?_getD, ← hpu, ptrs_at ht]; rfl
              obtain ⟨bf, vb, Kb, hq1, hq2, hq3, hq4, hq5⟩ := chunk_has hau (List.mem_of_getElem? ht)
              have htf := hau t (List.mem_of_getElem? ht)
              refine TT.skip (.seq (.seq (.block (.seq (.region (.index hT rfl rfl rfl rfl (hqr.there.there.there.there.there) (by omega) hq rfl (fun ad_75 hel_75 => ?_)))))))
              refine OT.load rfl rfl (hel_75.ld_one hT rfl rfl) rfl (.reg 76 rfl (v := .pointer (some ⟨bf, 0, none⟩)) hq1 (.swap (chunk_get_perm ht hq4) pl ?_))
              refine OT.split_chunk (.split_chunk (.pures hT 1 rfl (.nil (.seq (.region (.pures hT 4 rfl (.store hT rfl rfl rfl rfl pl rfl (Nat.le_of_ble_eq_true rfl) rfl (.inl (Nat.le_refl _)) (cs' := [.int .i64 t.2.1.no, vb, .bool false, .int .i64 t.2.1.lsn]) rfl ?_)))))))
              refine OT.pures hT 2 rfl (.store hT rfl rfl rfl rfl pl rfl (Nat.le_of_ble_eq_true rfl) rfl (.inl (Nat.le_refl _)) (cs' := [.int .i64 t.2.1.no, vb, .bool false, .int .i64 0]) rfl ?_)
              refine OT.nil (.blk (.seq (.region (.pures hT 2 rfl (.nil (.join (.join ?_)))))))
              have hcl : (([(bf, blk [.int .i64 t.2.1.no, vb, .bool false, .int .i64 0] 109 (0, 0))] ++ Kb) ++ chunk (Go.Pl.cut us k)).Perm (chunk (us.set k (t.1, t.2.1.clean, [(bf, blk [.int .i64 t.2.1.no, vb, .bool false, .int .i64 0] 109 (0, 0))] ++ Kb))) := chunk_set_perm (by omega) rfl
              refine KT.swap hcl (by simp only [List.append_assoc]; exact Pull.head) (.loop (i + 1, us.set k (t.1, t.2.1.clean, [(bf, blk [.int .i64 t.2.1.no, vb, .bool false, .int .i64 0] 109 (0, 0))] ++ Kb)) ?_ ?_ (SubR.cons rfl (SubR.cons rfl (SubR.cons rfl (SubR.cons rfl (SubR.cons' rfl (by (try dsimp only); exact (int_eq (by rw [wrap_i64 (by omega) (by omega)]; omega))) (SubR.nil _)))))) sl)
              · dsimp only
                exact ⟨by omega, (ptrs_set (t' := (t.1, t.2.1.clean, [(bf, blk [.int .i64 t.2.1.no, vb, .bool false, .int .i64 0] 109 (0, 0))] ++ Kb)) ht rfl).trans hpu, hau.set (t := (t.1, t.2.1.clean, [(bf, blk [.int .i64 t.2.1.no, vb, .bool false, .int .i64 0] 109 (0, 0))] ++ Kb)) ⟨htf.len, htf.no, Int.le_refl _, ⟨bf, vb, Kb, hq1, hq2, hq3, rfl⟩⟩ k, by rw [frs_set (t' := (t.1, t.2.1.clean, [(bf, blk [.int .i64 t.2.1.no, vb, .bool false, .int .i64 0] 109 (0, 0))] ++ Kb)) ht rfl, hfu, cleaned_snoc hk]⟩
              · dsimp only
                omega
            ·
              have c74 := of_decide_eq_false c74
              obtain rfl : i = ks.length := by omega
              rw [List.take_length] at hfu
              refine TT.exit (.seq (.loop (.here (.seq (.seq (.region (.pures hT 1 rfl (.nil (.seq (.ret (.of (rs := [.tmp 4]) [_] ([(b, blk [pd, pw, v] 100 (0, 0))] :: Kl :: chunk us :: H1 :: X3 :: r) rfl (.tmp rfl .nil) sl ?_)))))))))))
              dsimp only [one]
              exact ⟨_, _, _, rfl, hpu, hau, hfu, rfl, hl1, hX3⟩

end Go.Proofs.YtoalhcodigpgkaaGreatDoor.Sx
end

section
namespace Go.Proofs.YtoalhcodigpgkaaGreatDoor.Sx
open Go Go.Sx Go.Pl
variable [Outer]

set_option maxHeartbeats 4000000 in
set_option maxRecDepth 100000 in
theorem buf_room {b : Nat} {pd pw v : Value} {ts : List Tr} {Kl : Chunk} {r : List Chunk} (hP : PoolAt 5 109 106 v ts Kl) {l : Log} {d : Dev} {HL HD : Chunk} (hl : IsLog 5 2 125 97 pw pd l HL) (hd : IsDev 83 69 pd d HD) {n : Nat} (hn : 1 ≤ n) (hturn : l.sup.turn + ts.length ≤ 4611686018427387904) : Fun Tryz.prog 58 [.pointer (some ⟨b, 0, none⟩), .int .i64 (n : Nat)] ([(b, blk [pd, pw, v] 100 (0, 0))] :: Kl :: chunk ts :: HL :: HD :: r) (fun v' hs' => ∃ v2 K2 us HL' HD', hs' = [(b, blk [pd, pw, v2] 100 (0, 0))] :: K2 :: chunk us :: HL' :: HD' :: r ∧ PoolAt 5 109 106 v2 us K2 ∧ (ptrs us).getLast? = (ptrs ts).getLast? ∧ frs us = (room n (frs ts) l d).1 ∧ v' = .int .i64 (room n (frs ts) l d).2.2.2 ∧ IsLog 5 2 125 97 pw pd (room n (frs ts) l d).2.1 HL' ∧ IsDev 83 69 pd (room n (frs ts) l d).2.2.1 HD') := by
  refine Fun.enter 51 Tryz.func58 rfl Tryz.ntmps58 rfl ?_
  refine TT.seq (.region (.pures hT 1 rfl (.nil (.seq (.seq (.block (.loop (ι := (List Tr) × Value × Chunk × Log × Dev × Chunk × Chunk) (fun j => PoolAt 5 109 106 (j.2.1) (j.1) (j.2.2.1) ∧ IsLog 5 2 125 97 pw pd (j.2.2.2.1) (j.2.2.2.2.2.1) ∧ IsDev 83 69 pd (j.2.2.2.2.1) (j.2.2.2.2.2.2) ∧ (ptrs (j.1)).getLast? = (ptrs ts).getLast? ∧ (j.2.2.2.1).sup.turn + (j.1).length ≤ 4611686018427387904 ∧ poolRoom n (ts.length - n) (frs ts) l d = poolRoom n ((j.1).length - n) (frs (j.1)) (j.2.2.2.1) (j.2.2.2.2.1)) (fun j => (j.1).length - n) (fun j => [(0, .pointer (some ⟨b, 0, none⟩)), (1, .int .i64 (n : Nat))]) (fun j => [(b, blk [pd, pw, (j.2.1)] 100 (0, 0))] :: (j.2.2.1) :: chunk (j.1) :: (j.2.2.2.2.2.1) :: (j.2.2.2.2.2.2) :: r) (ts, v, Kl, l, d, HL, HD) ?_ (SubR.cons rfl (SubR.cons rfl (SubR.nil _))) sl ?_)))))))
  · dsimp only
    exact ⟨hP, hl, hd, rfl, hturn, rfl⟩
  rintro ⟨us, v2, K2, lx, dx, HLx, HDx⟩ hI
  dsimp only at hI
  obtain ⟨hPx, hlx, hdx, hlast, htx, heq⟩ := hI
  show TT _ _ _ [(0, .pointer (some ⟨b, 0, none⟩)), (1, .int .i64 (n : Nat))] ([(b, blk [pd, pw, v2] 100 (0, 0))] :: K2 :: chunk us :: HLx :: HDx :: r)
  have hown := hPx.own
  obtain ⟨a2, c2, hv2⟩ := (hown.row (hs := r)).len
  subst hv2
  have hpl := ptrs_length us
  have hfl := frs_length us
  have hfew := hPx.few
  refine TT.seq (.seq (.region (.pures hT 3 rfl (.load rfl rfl (Ld.slc hT rfl hz rfl) rfl ?_))))
  refine OT.pures hT 3 rfl (.nil (.seq (.cond rfl (fun c13 => ?_) (fun c13 => ?_))))
  ·
    have c13 := of_decide_eq_true c13
    obtain ⟨m, hm⟩ : ∃ m, us.length - n = m + 1 := ⟨us.length - n - 1, by omega⟩
    rw [hm] at heq
    refine TT.skip (.seq (.block (.seq (.draw ([(b, blk [pd, pw, .slice a2 (ptrs us).length c2] 100 (0, 0))] :: K2 :: chunk us :: HLx :: HDx :: r) mixed (.takes (fuel := 7) hT [0, 1, 2, 4, 5, 6] kr kr rfl (.take (fuel := 6) hT 3 rfl rfl kr kr kr rfl (.load rfl (Ld.slc hT rfl hz rfl)) rfl ?_))))))
    refine AT.take (fuel := 5) hT 7 rfl rfl kr kr kr rfl (.load rfl (Ld.slc hT rfl hz rfl)) rfl ?_
    refine AT.takes (fuel := 3) hT [8, 9] kr kr rfl (.op (fuel := 2) 10 kr rfl sl (.reg 23 rfl (v := .int .i64 ((us.length - 1 : Nat) : Int)) (int_eq (by rw [wrap_i64 (by omega) (by omega)]; omega)) (.slice 0 (us.length - 1) hT rfl rfl rfl rfl rfl (hown.row.there) (.inl ⟨rfl, rfl⟩) (.inr ⟨_, rfl⟩) (by omega) (by omega) rfl (fun v_24 hv_24 => ?_))))
    refine OT.nil (.any (.op (fuel := 1) 11 kr rfl sl ?_))
    rw [List.drop_zero, ← ptrs_take] at hv_24
    refine OT.call Tryz.call59 rfl rfl rfl rfl (sl_IndexFr (q := (fun t : Tr => isClean t.2.1)) (N := 83) (caps := []) hv_24 (by rw [List.length_take]; omega) Tryz.call83 (fun t ht => by obtain ⟨bf, vb, Kb, h1, h2, h3, h4, h5⟩ := chunk_has hPx.all (List.mem_of_mem_take ht); rw [h1]; exact buf_room1 (.there (.there (.here h5))))) ?_
    rintro v_25 hs_25 ⟨rfl, rfl⟩
    have hfi : firstAt (fun t : Tr => isClean t.2.1) 0 (us.take (us.length - 1)) = firstAt isClean 0 ((frs us).take ((frs us).length - 1)) := by rw [hfl, ← frs_take]; exact (firstAt_map _ _ _ _).symm
    refine OT.nil (.any (.takes (fuel := 0) hT [12] kr kr rfl (.done kr sl (.seq (.cut (ι := Nat × (List Tr) × Log × Dev × Chunk × Chunk) (fun j => (j.1) + 1 < us.length ∧ ptrs (j.2.1) = ptrs us ∧ AllFr 5 109 (j.2.1) ∧ roomStep (frs us) lx dx = (Go.Pl.cut (frs (j.2.1)) (j.1), (j.2.2.1), (j.2.2.2.1), 0) ∧ IsLog 5 2 125 97 pw pd (j.2.2.1) (j.2.2.2.2.1) ∧ IsDev 83 69 pd (j.2.2.2.1) (j.2.2.2.2.2) ∧ (j.2.2.1).sup.turn ≤ lx.sup.turn + 1) (fun j => [(0, .pointer (some ⟨b, 0, none⟩)), (1, .int .i64 (n : Nat)), (5, .int .i64 ((j.1) : Nat))]) (fun j => [(b, blk [pd, pw, .slice a2 (ptrs us).length c2] 100 (0, 0))] :: K2 :: chunk (j.2.1) :: (j.2.2.2.2.1) :: (j.2.2.2.2.2) :: r) ?_ ?_)))))
    ·
      refine TT.seq (.region (.pures hT 2 rfl (.nil (.seq (.cond rfl (fun c27 => ?_) (fun c27 => ?_))))))
      ·
        have c27 := of_decide_eq_true c27
        obtain ⟨t, ht⟩ := nth (l := us) (i := 0) (by omega)
        have hpt := ptrs_at ht
        obtain ⟨bf, vb, Kb, hq1, hq2, hq3, hq4, hq5⟩ := chunk_has hPx.all (List.mem_of_getElem? ht)
        have hct := poolClean_turn (frs us) [0] lx dx
        refine TT.seq (.seq (.region (.pures hT 4 rfl (.load rfl rfl (Ld.slc hT rfl hz rfl) rfl ?_))))
        refine OT.index hT rfl rfl rfl rfl (hown.row.there) (by omega) hpt rfl (fun ad_33 hel_33 => ?_)
        refine OT.load rfl rfl (hel_33.ld_one hT rfl rfl) rfl ?_
        refine OT.buildSlice (enc := encV) (xs := [t.1]) (xos := [.tmp 34]) el98 rfl rfl rfl rfl (by rw [hq1]; rfl) (by rw [hq1]; simp [Value.cells]) (fun _ _ => rfl) rfl (by decide) rfl (fun v_35 H_35 ho_35 => ?_)
        refine OT.call Tryz.call61 rfl rfl rfl rfl (Fun.weaken (hs' := [(b, blk [pd, pw, (.slice a2 (ptrs us).length c2)] 100 (0, 0))] :: K2 :: chunk us :: HLx :: HDx :: H_35 :: r) sl (buf_clean (r := H_35 :: r) hPx hlx hdx (by omega) (ks := [0]) (by intro k hk; rw [List.mem_singleton] at hk; omega) (by simp) (by have h := ho_35.row (hs := r); have e : [t.1] = ([0].map fun k => (ptrs us).getD k (.pointer none)) := (by simp [List.getD_eq_getElem?_getD, hpt]); rw [← e]; exact h))) ?_
        rintro v_36 hs_36 ⟨us2, HL2, HD2, rfl, hpu, hau, hfu, rfl, hl2, hd2⟩
        refine OT.pures hT 1 rfl (.nil (.seq (.seq (.region (.pures hT 2 rfl (.nil (.seq (.cond rfl (fun c38 => ?_) (fun c38 => ?_)))))))))
        ·
          have c38 : (poolClean (frs us) [0] lx dx).2.2.2 ≠ 0 := by simpa using c38
          have hst : roomStep (frs us) lx dx = poolClean (frs us) [0] lx dx := by unfold roomStep; rw [← hfi, if_pos c27, if_pos c38]
          rw [poolRoom_fail (by rw [hst]; exact c38), hst] at heq
          replace heq : room n (frs ts) l d = poolClean (frs us) [0] lx dx := by unfold room; rw [frs_length]; exact heq
          rw [heq]
          refine TT.seq (.region (.pures hT 2 rfl (.nil (.seq (.ret (.of (rs := [.tmp 4]) [_] ([(b, blk [pd, pw, .slice a2 (ptrs us).length c2] 100 (0, 0))] :: K2 :: chunk us2 :: HL2 :: HD2 :: r) rfl (.tmp rfl .nil) sl ?_))))))
          dsimp only [one]
          have hul : us2.length = us.length := by rw [← ptrs_length us2, hpu, ptrs_length]
          exact ⟨_, _, _, _, _, rfl, ⟨hau, by rw [hpu]; exact hown, rfl, by omega⟩, by rw [hpu]; exact hlast, hfu, rfl, hl2, hd2⟩
        ·
          have c38 : (poolClean (frs us) [0] lx dx).2.2.2 = 0 := by simpa using c38
          have hst : roomStep (frs us) lx dx = (Go.Pl.cut (frs us2) 0, (poolClean (frs us) [0] lx dx).2.1, (poolClean (frs us) [0] lx dx).2.2.1, 0) := by unfold roomStep; rw [← hfi, if_pos c27, if_neg (by omega), hfu]
          refine TT.skip (.seq (.region (.pures hT 1 rfl (.nil (.cut (0, us2, (poolClean (frs us) [0] lx dx).2.1, (poolClean (frs us) [0] lx dx).2.2.1, HL2, HD2) ?_ (SubR.cons rfl (SubR.cons rfl (SubR.cons rfl (SubR.nil _)))) sl)))))
          · dsimp only
            exact ⟨by omega, hpu, hau, hst, hl2, hd2, hct⟩
      ·
        have c27 := of_decide_eq_false c27
        obtain ⟨k, hk, hkl⟩ := firstAt_some c27
        rw [List.length_take] at hkl
        have hst : roomStep (frs us) lx dx = (Go.Pl.cut (frs us) k, lx, dx, 0) := by unfold roomStep; rw [← hfi, if_neg c27, hk, Int.toNat_natCast]
        refine TT.skip (.cut (k, us, lx, dx, HLx, HDx) ?_ (SubR.cons rfl (SubR.cons rfl (SubR.cons' rfl (by (try dsimp only); exact (int_eq hk)) (SubR.nil _)))) sl)
        · dsimp only
          exact ⟨by omega, rfl, hPx.all, hst, hlx, hdx, by omega⟩
    ·
      rintro ⟨k, us2, ly, dy, HL2, HD2⟩ hI
      dsimp only at hI
      obtain ⟨hk1, hpu, hau, hst, hl2, hd2, ht2⟩ := hI
      show TT _ _ _ [(0, .pointer (some ⟨b, 0, none⟩)), (1, .int .i64 (n : Nat)), (5, .int .i64 (k : Nat))] ([(b, blk [pd, pw, .slice a2 (ptrs us).length c2] 100 (0, 0))] :: K2 :: chunk us2 :: HL2 :: HD2 :: r)
      have hul : us2.length = us.length := by rw [← ptrs_length us2, hpu, ptrs_length]
      obtain ⟨t, ht⟩ := nth (l := us2) (i := k) (by omega)
      obtain ⟨bf, vb, Kb, hq1, hq2, hq3, hq4, hq5⟩ := chunk_has hau (List.mem_of_getElem? ht)
      refine TT.region (.pures hT 4 rfl (.load rfl rfl (Ld.slc hT rfl hz rfl) rfl ?_))
      refine OT.pures hT 3 rfl (.reg 47 rfl (v := .int .i64 ((k + 1 : Nat) : Int)) (int_eq (by rw [wrap_i64 (by omega) (by omega)]; omega)) (.call Tryz.call82 rfl rfl rfl rfl (Fun.pull pl (sl_DeleteFr hown (ones_ptrs hPx.all) (by omega) (by omega) (by omega))) ?_))
      rintro v_48 hs_48 ⟨H1, rfl, ho1⟩
      have how : Own encV 1 106 v_48 (ptrs (Go.Pl.cut us2 k)) H1 := by rw [ptrs_cut, hpu]; exact ho1
      obtain ⟨a48, c48, hv48⟩ := (how.row (hs := r)).len
      subst hv48
      refine OT.pures hT 2 rfl (.store hT rfl rfl rfl rfl pl rfl (Nat.le_of_ble_eq_true rfl) rfl (.inl (Nat.le_refl _)) (cs' := [pd, pw, .slice a48 (ptrs (Go.Pl.cut us2 k)).length c48]) rfl ?_)
      refine OT.nil (.blk (.swap (chunk_get_perm ht hq4) pl ?_))
      refine KT.split ?_
      have hcl : (Go.Pl.cut us2 k).length = us.length - 1 := by rw [cut_length (by omega), hul]
      have hcl2 : (ptrs us).getLast? = (ptrs (Go.Pl.cut us2 k)).getLast? := by rw [show ptrs (Go.Pl.cut us2 k) = Go.Pl.cut (ptrs us) k by rw [← hpu]; unfold ptrs; rw [cut_map], cut_last (by omega)]
      refine KT.loop (Go.Pl.cut us2 k, .slice a48 (ptrs (Go.Pl.cut us2 k)).length c48, H1, ly, dy, HL2, HD2) ?_ ?_ (SubR.cons rfl (SubR.cons rfl (SubR.nil _))) sl
      · dsimp only
        exact ⟨⟨hau.cut k, how, rfl, by omega⟩, hl2, hd2, hcl2.symm.trans hlast, by omega, by rw [heq, poolRoom_step hst, hcl, ← frs_cut]; congr 1; omega⟩
      · dsimp only
        omega
  ·
    have c13 := of_decide_eq_false c13
    rw [show us.length - n = 0 by omega] at heq
    replace heq : room n (frs ts) l d = (frs us, lx, dx, 0) := by unfold room; rw [frs_length]; exact heq
    rw [heq]
    refine TT.exit (.seq (.loop (.here (.seq (.seq (.region (.pures hT 1 rfl (.nil (.seq (.ret (.of (rs := [.tmp 4]) [_] ([(b, blk [pd, pw, .slice a2 (ptrs us).length c2] 100 (0, 0))] :: K2 :: chunk us :: HLx :: HDx :: r) rfl (.tmp rfl .nil) sl ?_)))))))))))
    dsimp only [one]
    exact ⟨_, _, _, _, _, rfl, hPx, hlast, rfl, rfl, hlx, hdx⟩

end Go.Proofs.YtoalhcodigpgkaaGreatDoor.Sx
end

section
namespace Go.Proofs.YtoalhcodigpgkaaGreatDoor.Sx
open Go Go.Sx Go.Pl
variable [Outer]

set_option maxHeartbeats 4000000 in
set_option maxRecDepth 100000 in
theorem buf_Page {p pd pw : Value} {fs : List Fr} {l : Log} {d : Dev} {H HL HD : Chunk} {r : List Chunk} (hp : IsPool 5 109 100 106 p pd pw fs H) (hl : IsLog 5 2 125 97 pw pd l HL) (hd : IsDev 83 69 pd d HD) (hturn : l.sup.turn + fs.length + 1 ≤ 4611686018427387904) (hfs : fs.length ≤ 1000000) {no : Int} : Fun Tryz.prog 38 [p, .int .i64 no] (H :: HL :: HD :: r) (fun v' hs' => ∃ w H1 H' HL' HD', hs' = H1 :: H' :: HL' :: HD' :: r ∧ v' = .tuple ⟨[w, .int .i64 (poolPage fs l d no).2.1]⟩ ∧ Own Go.Sx.encB 1 5 w (poolPage fs l d no).1 H1 ∧ IsPool 5 109 100 106 p pd pw (poolPage fs l d no).2.2.1 H' ∧ IsLog 5 2 125 97 pw pd (poolPage fs l d no).2.2.2.1 HL' ∧ IsDev 83 69 pd (poolPage fs l d no).2.2.2.2 HD') := by
  refine Fun.enter 72 Tryz.func38 rfl Tryz.ntmps38 rfl ?_
  obtain ⟨b, v, ts, Kl, hpp, hfe, hP, hH⟩ := hp.is
  subst hpp
  subst hH
  subst hfe
  have hfl := frs_length ts
  have hplen := ptrs_length ts
  obtain ⟨av, cv, hv⟩ := (hP.own.row (hs := r)).len
  subst hv
  refine TT.perm perm3 (.seq (.region (.pures hT 2 rfl (.nil (.seq (.seq (.seq (.region (.pures hT 2 rfl (.call Tryz.call55 rfl rfl rfl rfl (buf_may) ?_))))))))))
  rintro v_13 hs_13 ⟨rfl, rfl⟩
  refine OT.pures hT 1 rfl (.nil (.seq (.seq (.region (.pures hT 2 rfl (.nil (.seq (.cond rfl (fun c15 => ?_) (fun c15 => ?_)))))))))
  ·
    have c15 : ¬ mayPage no := by intro h; unfold mayPool at c15; rw [if_pos h] at c15; simp at c15
    have hw : (poolPage (frs ts) l d no) = ([], 3, frs ts, l, d) := by unfold poolPage; rw [if_pos c15]
    have hm : mayPool no = 3 := by unfold mayPool; rw [if_neg c15]
    rw [hw, hm]
    refine TT.seq (.region (.pures hT 3 rfl (.nil (.seq (.ret (.of (rs := [.tmp 4, .tmp 5]) [_, _] ([] :: (([(b, blk [pd, pw, .slice av (ptrs ts).length cv] 100 (0, 0))] ++ (Kl ++ chunk ts)) :: HL :: HD :: r)) rfl (.tmp rfl (.tmp rfl .nil)) sl ?_))))))
    dsimp only [one]
    exact ⟨_, _, _, _, _, rfl, rfl, Own.nil, ⟨⟨b, _, _, _, rfl, rfl, hP, rfl⟩⟩, hl, hd⟩
  ·
    have c15 : mayPage no := by refine Classical.byContradiction fun h => ?_; unfold mayPool at c15; rw [if_neg h] at c15; simp at c15
    refine TT.skip (.seq (.seq (.region (.pures hT 2 rfl (.call Tryz.call56 rfl rfl rfl rfl (buf_find hP) ?_)))))
    rintro v_19 hs_19 ⟨v2, K2, rfl, hP2, rfl⟩
    refine OT.pures hT 1 rfl (.nil (.seq (.cut (ι := Value × (List Tr) × Chunk × Tr × Nat × Log × Dev × Chunk × Chunk) (fun j => PoolAt 5 109 106 (j.1) (j.2.1) (j.2.2.1) ∧ (j.2.2.2.1) ∈ (j.2.1) ∧ (j.2.2.2.1).1 = .pointer (some ⟨(j.2.2.2.2.1), 0, none⟩) ∧ (poolPage (frs ts) l d no) = ((j.2.2.2.1).2.1.b, 0, frs (j.2.1), (j.2.2.2.2.2.1), (j.2.2.2.2.2.2.1)) ∧ IsLog 5 2 125 97 pw pd (j.2.2.2.2.2.1) (j.2.2.2.2.2.2.2.1) ∧ IsDev 83 69 pd (j.2.2.2.2.2.2.1) (j.2.2.2.2.2.2.2.2)) (fun j => [(0, .pointer (some ⟨b, 0, none⟩)), (7, .pointer (some ⟨(j.2.2.2.2.1), 0, none⟩))]) (fun j => [(b, blk [pd, pw, (j.1)] 100 (0, 0))] :: (j.2.2.1) :: chunk (j.2.1) :: (j.2.2.2.2.2.2.2.1) :: (j.2.2.2.2.2.2.2.2) :: r) ?_ ?_)))
    ·
      refine TT.seq (.region (.pures hT 2 rfl (.nil (.seq (.cond rfl (fun c21 => ?_) (fun c21 => ?_))))))
      ·
        obtain ⟨hf0, hat⟩ := findP_none hP.all c21
        rw [hat] at hP2 ⊢
        have hw0 := hf0
        refine TT.seq (.region (.pures hT 3 rfl (.load rfl rfl (Ld.one hT rfl hz rfl) rfl ?_)))
        refine OT.pures hT 1 rfl (.call Tryz.call64 rfl rfl rfl rfl (Fun.pull (A := HD) pl (page_Read hd)) ?_)
        rintro v_28 hs_28 ⟨w8, H1, rfl, rfl, ho1⟩
        refine OT.pures hT 5 rfl (.nil (.seq (.seq (.seq (.region (.pures hT 2 rfl (.nil (.seq (.cond rfl (fun c32 => ?_) (fun c32 => ?_))))))))))
        ·
          have c32 : (readPage d no).2 ≠ 0 := by simpa using c32
          have hw : (poolPage (frs ts) l d no) = ([], (readPage d no).2, frs ts, l, d) := by unfold poolPage; rw [if_neg (by simpa using c15), if_pos hf0, if_pos c32]
          rw [hw]
          refine TT.seq (.region (.pures hT 3 rfl (.nil (.seq (.ret (.of (rs := [.tmp 4, .tmp 5]) [_, _] ([] :: (([(b, blk [pd, pw, v2] 100 (0, 0))] ++ (K2 ++ chunk ts)) :: HL :: HD :: r)) rfl (.tmp rfl (.tmp rfl .nil)) sl ?_))))))
          dsimp only [one]
          exact ⟨_, _, _, _, _, rfl, rfl, Own.nil, ⟨⟨b, _, _, _, rfl, rfl, hP2, rfl⟩⟩, hl, hd⟩
        ·
          have c32 : (readPage d no).2 = 0 := by simpa using c32
          have hrl := readPage_length hd.ok c32
          obtain ⟨a8, c8, hv8⟩ := (ho1.row (hs := r)).len
          subst hv8
          refine TT.skip (.seq (.seq (.region (.pures hT 2 rfl (.build (cs := [.int .i64 no, .slice a8 (readPage d no).1.length c8, .bool false, .int .i64 0]) hT rfl Tryz.zeroValue109 rfl rfl rfl rfl (.box rfl rfl rfl (fun b_37 => ?_)))))))
          refine OT.pures hT 1 rfl (.nil (.seq (.seq (.region (.pures hT 4 rfl (.load rfl rfl (Ld.slc hT rfl hz rfl) rfl ?_))))))
          refine OT.pures hT 1 rfl ?_
          refine OT.buildSlice (enc := encV) (xs := [.pointer (some ⟨b_37, 0, none⟩)]) (xos := [.tmp 43]) el98 rfl rfl rfl rfl rfl (by simp [Value.cells]) (fun _ _ => rfl) rfl (by decide) rfl (fun v_44 H_44 ho_44 => ?_)
          refine OT.append hT el98 rfl rfl rfl rfl pl hP2.own ro rfl (by simp only [List.length_cons, List.length_nil]; omega) rfl (fun v_45 H_45 ho_45 => ?_)
          have how : Own encV 1 106 v_45 (ptrs (ts ++ [(.pointer (some ⟨b_37, 0, none⟩), ⟨no, (readPage d no).1, false, 0⟩, [(b_37, blk [.int .i64 no, .slice a8 (readPage d no).1.length c8, .bool false, .int .i64 0] 109 (0, 0))] ++ H1)])) H_45 := by rw [ptrs_snoc]; exact ho_45
          have hPn : PoolAt 5 109 106 v_45 (ts ++ [(.pointer (some ⟨b_37, 0, none⟩), ⟨no, (readPage d no).1, false, 0⟩, [(b_37, blk [.int .i64 no, .slice a8 (readPage d no).1.length c8, .bool false, .int .i64 0] 109 (0, 0))] ++ H1)]) H_45 := ⟨hP.all.snoc ⟨hrl, c15, Int.le_refl _, ⟨b_37, _, H1, rfl, ho1, rfl, rfl⟩⟩, how, by obtain ⟨x, y, h⟩ := (how.row (hs := r)).len; rw [h]; rfl, by rw [List.length_append]; simp; omega⟩
          refine OT.pures hT 2 rfl (.store hT rfl rfl rfl rfl pl (by obtain ⟨x, y, h⟩ := (how.row (hs := r)).len; rw [h]; rfl) (Nat.le_of_ble_eq_true rfl) (by obtain ⟨x, y, h⟩ := (how.row (hs := r)).len; rw [h]; rfl) (.inl (Nat.le_refl _)) (cs' := [pd, pw, v_45]) (by obtain ⟨x, y, h⟩ := (how.row (hs := r)).len; rw [h]; rfl) ?_)
          refine OT.nil (.seq (.seq (.region (.pures hT 1 rfl (.call Tryz.call58 rfl rfl rfl rfl (Fun.weaken (hs' := [(b, blk [pd, pw, v_45] 100 (0, 0))] :: H_45 :: (chunk ts ++ ([(b_37, blk [.int .i64 no, .slice a8 (readPage d no).1.length c8, .bool false, .int .i64 0] 109 (0, 0))] ++ H1)) :: HL :: HD :: r) sl (by have h := buf_room (r := r) (b := b) hPn hl hd (n := 6) (by omega) (by rw [List.length_append]; simp; omega); rw [chunk_snoc] at h; exact h)) ?_)))))
          rintro v_49 hs_49 ⟨v5, K5, us, HL5, HD5, rfl, hP5, hlast, hfu, rfl, hl5, hd5⟩
          rw [frs_snoc] at hfu hl5 hd5 ⊢
          rw [ptrs_snoc, List.getLast?_concat] at hlast
          have hulast := last_snoc hlast
          refine OT.pures hT 1 rfl (.nil (.seq (.seq (.region (.pures hT 2 rfl (.nil (.seq (.cond rfl (fun c51 => ?_) (fun c51 => ?_)))))))))
          ·
            have c51 : (room 6 (frs ts ++ [⟨no, (readPage d no).1, false, 0⟩]) l d).2.2.2 ≠ 0 := by simpa using c51
            have hw : (poolPage (frs ts) l d no) = ([], (room 6 (frs ts ++ [⟨no, (readPage d no).1, false, 0⟩]) l d).2.2.2, (room 6 (frs ts ++ [⟨no, (readPage d no).1, false, 0⟩]) l d).1.dropLast, (room 6 (frs ts ++ [⟨no, (readPage d no).1, false, 0⟩]) l d).2.1, (room 6 (frs ts ++ [⟨no, (readPage d no).1, false, 0⟩]) l d).2.2.1) := by unfold poolPage; rw [if_neg (by simpa using c15), if_pos hf0, if_neg (by omega), if_pos c51]
            rw [hw]
            obtain ⟨a5, c5, hv5⟩ := (hP5.own.row (hs := r)).len
            subst hv5
            have hul : 0 < us.length := by rw [← ptrs_length us, hulast]; simp
            have hup := ptrs_length us
            refine TT.seq (.draw (r) mixed (.takes (fuel := 8) hT [0, 1, 2, 3, 5, 6, 7] kr kr rfl (.all (fuel := 7) [4, 8] kr (by decide) sl ?_)))
            intro i hi
            simp only [List.mem_cons, List.not_mem_nil, or_false] at hi
            rcases hi with rfl | rfl
            ·
              refine ⟨_, rfl, ?_⟩
              refine OT.load rfl rfl (Ld.slc hT rfl hz rfl) rfl ?_
              refine OT.nil (.any (.op (fuel := 6) 8 kr rfl sl (.load rfl rfl (Ld.slc hT rfl hz rfl) rfl ?_)))
              refine OT.nil (.any (.takes (fuel := 4) hT [9, 10] kr kr rfl (.op (fuel := 3) 11 kr rfl sl (.reg 62 rfl (v := .int .i64 ((us.length - 1 : Nat) : Int)) (int_eq (by have := hP5.few; rw [wrap_i64 (by omega) (by omega)]; omega)) ?_))))
              refine OT.slice_to (us.length - 1) hT rfl rfl rfl rfl hP5.own (by omega) rfl (fun ho_63 => ?_)
              refine OT.nil (.any (.takes (fuel := 1) hT [12, 13] kr kr rfl (.op (fuel := 0) 14 kr rfl sl (.store hT rfl rfl rfl rfl pl rfl (Nat.le_of_ble_eq_true rfl) rfl (.inl (Nat.le_refl _)) (cs' := [pd, pw, .slice a5 (us.length - 1) c5]) rfl ?_))))
              refine OT.nil (.any (.done kr sl (.seq (.seq (.region (.pures hT 3 rfl (.nil (.seq (.ret ?_)))))))))
              obtain ⟨t5, ht5⟩ := nth (l := us) (i := us.length - 1) (by omega)
              obtain ⟨bf, vb, Kb, hq1, hq2, hq3, hq4, hq5⟩ := chunk_has hP5.all (List.mem_of_getElem? ht5)
              have hdl : us.dropLast = Go.Pl.cut us (us.length - 1) := by unfold Go.Pl.cut; rw [List.drop_eq_nil_of_le (by omega), List.append_nil, List.dropLast_eq_take]
              refine RT.swap (chunk_get_perm ht5 hq4) pl ?_
              refine RT.split ?_
              refine RT.of (rs := [.tmp 4, .tmp 5]) [_, _] ([] :: ([(b, blk [pd, pw, (.slice a5 (us.length - 1) c5)] 100 (0, 0))] ++ (K5 ++ chunk (Go.Pl.cut us (us.length - 1)))) :: HL5 :: HD5 :: r) rfl (.tmp rfl (.tmp rfl .nil)) sl ?_
              dsimp only [one]
              refine ⟨_, _, _, _, _, rfl, rfl, Own.nil, ⟨⟨b, _, _, _, rfl, ?_, ⟨hP5.all.cut _, ?_, rfl, ?_⟩, rfl⟩⟩, hl5, hd5⟩
              · rw [← hfu, ← hdl]; unfold frs; rw [List.map_dropLast]
              · rw [← hdl, show ptrs us.dropLast = (ptrs us).take (us.length - 1) by unfold ptrs; rw [List.map_dropLast, List.dropLast_eq_take, List.length_map]]; first | exact ho_63 | assumption
              · have := hP5.few; rw [← hdl, List.length_dropLast]; omega
            ·
              refine ⟨_, rfl, ?_⟩
              refine OT.load rfl rfl (Ld.slc hT rfl hz rfl) rfl ?_
              refine OT.nil (.any (.takes (fuel := 5) hT [9, 10] kr kr rfl (.op (fuel := 4) 4 kr rfl sl (.load rfl rfl (Ld.slc hT rfl hz rfl) rfl ?_))))
              refine OT.nil (.any (.op (fuel := 3) 11 kr rfl sl (.reg 62 rfl (v := .int .i64 ((us.length - 1 : Nat) : Int)) (int_eq (by have := hP5.few; rw [wrap_i64 (by omega) (by omega)]; omega)) ?_)))
              refine OT.slice_to (us.length - 1) hT rfl rfl rfl rfl hP5.own (by omega) rfl (fun ho_63 => ?_)
              refine OT.nil (.any (.takes (fuel := 1) hT [12, 13] kr kr rfl (.op (fuel := 0) 14 kr rfl sl (.store hT rfl rfl rfl rfl pl rfl (Nat.le_of_ble_eq_true rfl) rfl (.inl (Nat.le_refl _)) (cs' := [pd, pw, .slice a5 (us.length - 1) c5]) rfl ?_))))
              refine OT.nil (.any (.done kr sl (.seq (.seq (.region (.pures hT 3 rfl (.nil (.seq (.ret ?_)))))))))
              obtain ⟨t5, ht5⟩ := nth (l := us) (i := us.length - 1) (by omega)
              obtain ⟨bf, vb, Kb, hq1, hq2, hq3, hq4, hq5⟩ := chunk_has hP5.all (List.mem_of_getElem? ht5)
              have hdl : us.dropLast = Go.Pl.cut us (us.length - 1) := by unfold Go.Pl.cut; rw [List.drop_eq_nil_of_le (by omega), List.append_nil, List.dropLast_eq_take]
              refine RT.swap (chunk_get_perm ht5 hq4) pl ?_
              refine RT.split ?_
              refine RT.of (rs := [.tmp 4, .tmp 5]) [_, _] ([] :: ([(b, blk [pd, pw, (.slice a5 (us.length - 1) c5)] 100 (0, 0))] ++ (K5 ++ chunk (Go.Pl.cut us (us.length - 1)))) :: HL5 :: HD5 :: r) rfl (.tmp rfl (.tmp rfl .nil)) sl ?_
              dsimp only [one]
              refine ⟨_, _, _, _, _, rfl, rfl, Own.nil, ⟨⟨b, _, _, _, rfl, ?_, ⟨hP5.all.cut _, ?_, rfl, ?_⟩, rfl⟩⟩, hl5, hd5⟩
              · rw [← hfu, ← hdl]; unfold frs; rw [List.map_dropLast]
              · rw [← hdl, show ptrs us.dropLast = (ptrs us).take (us.length - 1) by unfold ptrs; rw [List.map_dropLast, List.dropLast_eq_take, List.length_map]]; first | exact ho_63 | assumption
              · have := hP5.few; rw [← hdl, List.length_dropLast]; omega
          ·
            have c51 : (room 6 (frs ts ++ [⟨no, (readPage d no).1, false, 0⟩]) l d).2.2.2 = 0 := by simpa using c51
            have hw : (poolPage (frs ts) l d no) = ((readPage d no).1, 0, (room 6 (frs ts ++ [⟨no, (readPage d no).1, false, 0⟩]) l d).1, (room 6 (frs ts ++ [⟨no, (readPage d no).1, false, 0⟩]) l d).2.1, (room 6 (frs ts ++ [⟨no, (readPage d no).1, false, 0⟩]) l d).2.2.1) := by unfold poolPage; rw [if_neg (by simpa using c15), if_pos hf0, if_neg (by omega), if_neg (by omega)]
            refine TT.skip ?_
            obtain ⟨t5, ht5, hpt5⟩ : ∃ t5 ∈ us, t5.1 = .pointer (some ⟨b_37, 0, none⟩) ∧ us.getLast? = some t5 := by
              obtain ⟨t5, h5⟩ : ∃ t5, us.getLast? = some t5 := by
                cases h : us.getLast? with
                | none => rw [List.getLast?_eq_none_iff] at h; rw [h] at hlast; cases hlast
                | some x => exact ⟨x, rfl⟩
              refine ⟨t5, List.mem_of_getLast? h5, ?_, h5⟩
              unfold ptrs at hlast
              rw [List.getLast?_map, h5] at hlast
              exact Option.some.inj hlast
            have hb5 : t5.2.1 = ⟨no, (readPage d no).1, false, 0⟩ := by
              have h := room_last (n := 6) (by omega) (frs ts ++ [⟨no, (readPage d no).1, false, 0⟩]) l d
              rw [← hfu, List.getLast?_concat] at h
              unfold frs at h
              rw [List.getLast?_map, hpt5.2] at h
              exact Option.some.inj h
            refine KT.cut (v5, us, K5, t5, b_37, (room 6 (frs ts ++ [⟨no, (readPage d no).1, false, 0⟩]) l d).2.1, (room 6 (frs ts ++ [⟨no, (readPage d no).1, false, 0⟩]) l d).2.2.1, HL5, HD5) ?_ (SubR.cons rfl (SubR.cons rfl (SubR.nil _))) sl
            · dsimp only
              exact ⟨hP5, ht5, hpt5.1, by rw [hw, hfu, hb5], hl5, hd5⟩
      ·
        obtain ⟨hf0, us, t, bf, vb, Kb, hat, hfp, hq1, hq2, hq3, hq4, hno, htm, hul, htf, hau⟩ := findP_some hP.all c21
        rw [hfp]
        refine TT.skip (.cut (v2, (askedT ts no), K2, t, bf, l, d, HL, HD) ?_ (SubR.cons rfl (SubR.cons rfl (SubR.nil _))) sl)
        · dsimp only
          refine ⟨hP2, by rw [hat]; simp, hq1, ?_, hl, hd⟩
          unfold poolPage
          rw [if_neg (by simpa using c15), if_neg hf0, ← askedT_frs, hat, frs_snoc]
          simp [lastFr]
    ·
      rintro ⟨v3, us, K3, t, bf, l3, d3, HL3, HD3⟩ hI
      dsimp only at hI
      obtain ⟨hP3, htm, htp, hw, hl3, hd3⟩ := hI
      show TT _ _ _ [(0, .pointer (some ⟨b, 0, none⟩)), (7, .pointer (some ⟨bf, 0, none⟩))] ([(b, blk [pd, pw, v3] 100 (0, 0))] :: K3 :: chunk us :: HL3 :: HD3 :: r)
      obtain ⟨bf', vb, Kb, hq1, hq2, hq3, hq4, hq5⟩ := chunk_has hP3.all htm
      obtain rfl : bf = bf' := by rw [htp] at hq1; injection hq1 with e; injection e with e; injection e
      have hlen := (hP3.all t htm).len
      obtain ⟨a9, c9, hv9⟩ := (hq2.row (hs := r)).len
      subst hv9
      rw [hw]
      refine TT.seq (.region (.pures hT 3 rfl (.load rfl rfl (Ld.slc hT rfl (.there (.there (.here hq5))) rfl) rfl (.call Tryz.call57 rfl rfl rfl rfl (bytes_Clone ((chunk_row htm hq2 hq4).there.there) (by omega)) ?_))))
      rintro v_71 hs_71 ⟨HB, rfl, hoB⟩
      refine OT.pures hT 2 rfl (.nil (.seq (.ret (.of (rs := [.tmp 4, .tmp 5]) [_, _] (HB :: (([(b, blk [pd, pw, v3] 100 (0, 0))] ++ (K3 ++ chunk us)) :: HL3 :: HD3 :: r)) rfl (.tmp rfl (.tmp rfl .nil)) sl ?_))))
      dsimp only [one]
      exact ⟨_, _, _, _, _, rfl, rfl, hoB, ⟨⟨b, _, _, _, rfl, rfl, hP3, rfl⟩⟩, hl3, hd3⟩

end Go.Proofs.YtoalhcodigpgkaaGreatDoor.Sx
end

section
namespace Go.Proofs.YtoalhcodigpgkaaGreatDoor.Sx
open Go Go.Sx Go.Pl
variable [Outer]

set_option maxHeartbeats 4000000 in
set_option maxRecDepth 100000 in
theorem buf_Put {p pd pw : Value} {fs : List Fr} {l : Log} {d : Dev} {H HL HD : Chunk} {r : List Chunk} (hp : IsPool 5 109 100 106 p pd pw fs H) (hl : IsLog 5 2 125 97 pw pd l HL) (hd : IsDev 83 69 pd d HD) (hturn : l.sup.turn + fs.length + 1 ≤ 4611686018427387904) (hfs : fs.length ≤ 1000000) {no lsn : Int} {vb : Value} {bs : List UInt8} (hr : Row Go.Sx.encB 1 r vb bs) (hbl : bs.length ≤ 1073741824) : Fun Tryz.prog 33 [p, .int .i64 no, vb, .int .i64 lsn] (H :: HL :: HD :: r) (fun v' hs' => ∃ H' HL' HD', hs' = H' :: HL' :: HD' :: r ∧ v' = .int .i64 (poolPut fs l d no bs lsn).1 ∧ IsPool 5 109 100 106 p pd pw (poolPut fs l d no bs lsn).2.1 H' ∧ IsLog 5 2 125 97 pw pd (poolPut fs l d no bs lsn).2.2.1 HL' ∧ IsDev 83 69 pd (poolPut fs l d no bs lsn).2.2.2 HD') := by
  refine Fun.enter 57 Tryz.func33 rfl Tryz.ntmps33 rfl ?_
  obtain ⟨ab, cb, hvb⟩ := hr.len
  subst hvb
  obtain ⟨b, v, ts, Kl, hpp, hfe, hP, hH⟩ := hp.is
  subst hpp
  subst hH
  subst hfe
  have hfl := frs_length ts
  have hplen := ptrs_length ts
  obtain ⟨av, cv, hv⟩ := (hP.own.row (hs := r)).len
  subst hv
  refine TT.perm perm3 (.seq (.region (.pures hT 1 rfl (.nil (.seq (.seq (.seq (.region (.pures hT 2 rfl (.call Tryz.call55 rfl rfl rfl rfl (buf_may) ?_))))))))))
  rintro v_13 hs_13 ⟨rfl, rfl⟩
  refine OT.pures hT 1 rfl (.nil (.seq (.seq (.region (.pures hT 2 rfl (.nil (.seq (.cond rfl (fun c15 => ?_) (fun c15 => ?_)))))))))
  ·
    have c15 : ¬ mayPage no := by intro h; unfold mayPool at c15; rw [if_pos h] at c15; simp at c15
    have hw : (poolPut (frs ts) l d no bs lsn) = (3, frs ts, l, d) := by unfold poolPut; rw [if_pos c15]
    have hm : mayPool no = 3 := by unfold mayPool; rw [if_neg c15]
    rw [hw, hm]
    refine TT.seq (.region (.pures hT 2 rfl (.nil (.seq (.ret (.of (rs := [.tmp 8]) [_] (([(b, blk [pd, pw, .slice av (ptrs ts).length cv] 100 (0, 0))] ++ (Kl ++ chunk ts)) :: HL :: HD :: r) rfl (.tmp rfl .nil) sl ?_))))))
    dsimp only [one]
    exact ⟨_, _, _, rfl, rfl, ⟨⟨b, _, _, _, rfl, rfl, hP, rfl⟩⟩, hl, hd⟩
  ·
    have c15 : mayPage no := by refine Classical.byContradiction fun h => ?_; unfold mayPool at c15; rw [if_neg h] at c15; simp at c15
    refine TT.skip (.seq (.seq (.seq (.region (.pures hT 3 rfl (.nil (.seq (.cond rfl (fun c19 => ?_) (fun c19 => ?_)))))))))
    ·
      have c19 : ¬ bs.length = 256 := by simp at c19; omega
      have hw : (poolPut (frs ts) l d no bs lsn) = (1, frs ts, l, d) := by unfold poolPut; rw [if_neg (by simpa using c15), if_pos c19]
      rw [hw]
      refine TT.seq (.region (.pures hT 1 rfl (.nil (.seq (.ret (.of (rs := [.tmp 8]) [_] (([(b, blk [pd, pw, .slice av (ptrs ts).length cv] 100 (0, 0))] ++ (Kl ++ chunk ts)) :: HL :: HD :: r) rfl (.tmp rfl .nil) sl ?_))))))
      dsimp only [one]
      exact ⟨_, _, _, rfl, rfl, ⟨⟨b, _, _, _, rfl, rfl, hP, rfl⟩⟩, hl, hd⟩
    ·
      have c19 : bs.length = 256 := by simp at c19; omega
      refine TT.skip (.seq (.seq (.region (.pures hT 2 rfl (.call Tryz.call56 rfl rfl rfl rfl (buf_find hP) ?_)))))
      rintro v_22 hs_22 ⟨v2, K2, rfl, hP2, rfl⟩
      refine OT.pures hT 1 rfl (.nil (.seq (.cut (ι := Value × (List Tr) × Chunk × Fr × Nat × Value × Chunk) (fun j => AllFr 5 109 (j.2.1) ∧ Own encV 1 106 (j.1) (ptrs (j.2.1) ++ [.pointer (some ⟨(j.2.2.2.2.1), 0, none⟩)]) (j.2.2.1) ∧ oneC (j.1) = true ∧ Own Go.Sx.encB 1 5 (j.2.2.2.2.2.1) (j.2.2.2.1).b (j.2.2.2.2.2.2) ∧ oneC (j.2.2.2.2.2.1) = true ∧ mayPage (j.2.2.2.1).no ∧ 0 ≤ (j.2.2.2.1).lsn ∧ (j.2.1).length ≤ ts.length ∧ putAt (frs ts) no bs lsn = frs (j.2.1) ++ [⟨(j.2.2.2.1).no, bs, true, max (j.2.2.2.1).lsn lsn⟩]) (fun j => [(0, .pointer (some ⟨b, 0, none⟩)), (2, .slice ab bs.length cb), (3, .int .i64 lsn), (10, .pointer (some ⟨(j.2.2.2.2.1), 0, none⟩))]) (fun j => [(b, blk [pd, pw, (j.1)] 100 (0, 0))] :: (j.2.2.1) :: chunk (j.2.1) :: [((j.2.2.2.2.1), blk (frCells (j.2.2.2.1) (j.2.2.2.2.2.1)) 109 (0, 0))] :: (j.2.2.2.2.2.2) :: HL :: HD :: r) ?_ ?_)))
      ·
        refine TT.seq (.region (.pures hT 2 rfl (.nil (.seq (.cond rfl (fun c24 => ?_) (fun c24 => ?_))))))
        ·
          obtain ⟨hf0, hat⟩ := findP_none hP.all c24
          rw [hat] at hP2 ⊢
          refine TT.seq (.region (.pures hT 1 rfl (.build (cs := [.int .i64 no, .slice none 0 0, .bool false, .int .i64 0]) hT rfl Tryz.zeroValue109 rfl rfl rfl rfl (.box rfl rfl rfl (fun b_27 => ?_)))))
          refine OT.pures hT 1 rfl (.nil (.seq (.region (.pures hT 4 rfl (.load rfl rfl (Ld.slc hT rfl hz rfl) rfl ?_)))))
          refine OT.pures hT 1 rfl ?_
          refine OT.buildSlice (enc := encV) (xs := [.pointer (some ⟨b_27, 0, none⟩)]) (xos := [.tmp 33]) el98 rfl rfl rfl rfl rfl (by simp [Value.cells]) (fun _ _ => rfl) rfl (by decide) rfl (fun v_34 H_34 ho_34 => ?_)
          refine OT.append hT el98 rfl rfl rfl rfl pl hP2.own ro rfl (by simp only [List.length_cons, List.length_nil]; omega) rfl (fun v_35 H_35 ho_35 => ?_)
          obtain ⟨a35, c35, hv35⟩ := (ho_35.row (hs := r)).len
          subst hv35
          refine OT.pures hT 2 rfl (.store hT rfl rfl rfl rfl pl rfl (Nat.le_of_ble_eq_true rfl) rfl (.inl (Nat.le_refl _)) (cs' := [pd, pw, .slice a35 (ptrs ts ++ [Value.pointer (some ⟨b_27, 0, none⟩)]).length c35]) rfl ?_)
          refine OT.nil (.chunk0 (.cut (.slice a35 (ptrs ts ++ [Value.pointer (some ⟨b_27, 0, none⟩)]).length c35, ts, H_35, ⟨no, [], false, 0⟩, b_27, .slice none 0 0, []) ?_ (SubR.cons rfl (SubR.cons rfl (SubR.cons rfl (SubR.cons rfl (SubR.nil _))))) sl))
          · dsimp only
            refine ⟨hP.all, ho_35, rfl, Own.nil, rfl, c15, Int.le_refl _, Nat.le_refl _, ?_⟩
            unfold putAt; rw [if_pos hf0]
        ·
          obtain ⟨hf0, us, t, bf, vb, Kb, hat, hfp, hq1, hq2, hq3, hq4, hno, htm, hul, htf, hau⟩ := findP_some hP.all c24
          rw [hfp]
          refine TT.skip (.swap (A := chunk (askedT ts no)) (B := chunk us ++ ([(bf, blk (frCells t.2.1 vb) 109 (0, 0))] ++ Kb)) (by rw [hat, chunk_snoc, hq4]) pl ?_)
          refine KT.split (.swap (List.Perm.refl ([(bf, blk (frCells t.2.1 vb) 109 (0, 0))] ++ Kb)) pl ?_)
          refine KT.split (.cut (v2, us, K2, t.2.1, bf, vb, Kb) ?_ (SubR.cons rfl (SubR.cons rfl (SubR.cons rfl (SubR.cons rfl (SubR.nil _))))) sl)
          · dsimp only
            refine ⟨hau, ?_, hP2.one, hq2, hq3, htf.no, htf.lsn, by omega, ?_⟩
            · have h := hP2.own
              rw [hat, ptrs_snoc, hq1] at h
              exact h
            · unfold putAt
              rw [if_neg hf0, ← askedT_frs, hat, frs_snoc]
              simp [lastFr]
      ·
        rintro ⟨v3, us, K3, f, bf, vb, Kb⟩ hI
        dsimp only at hI
        obtain ⟨hau, ho3, hone3, hob, hone, hno, hls, hul, hput⟩ := hI
        show TT _ _ _ [(0, .pointer (some ⟨b, 0, none⟩)), (2, .slice ab bs.length cb), (3, .int .i64 lsn), (10, .pointer (some ⟨bf, 0, none⟩))] ([(b, blk [pd, pw, v3] 100 (0, 0))] :: K3 :: chunk us :: [(bf, blk (frCells f vb) 109 (0, 0))] :: Kb :: HL :: HD :: r)
        have hw : (poolPut (frs ts) l d no bs lsn) = ((room 6 (frs us ++ [⟨f.no, bs, true, max f.lsn lsn⟩]) l d).2.2.2, (room 6 (frs us ++ [⟨f.no, bs, true, max f.lsn lsn⟩]) l d).1, (room 6 (frs us ++ [⟨f.no, bs, true, max f.lsn lsn⟩]) l d).2.1, (room 6 (frs us ++ [⟨f.no, bs, true, max f.lsn lsn⟩]) l d).2.2.1) := by unfold poolPut; rw [if_neg (by simpa using c15), if_neg (by simpa using c19), hput]
        rw [hw]
        refine TT.seq (.draw (r) mixed (.takes (fuel := 12) hT [0, 1, 2, 3, 5, 6, 7, 9] kr kr rfl (.all (fuel := 11) [4, 8] kr (by decide) sl ?_)))
        intro i hi
        simp only [List.mem_cons, List.not_mem_nil, or_false] at hi
        rcases hi with rfl | rfl
        ·
          refine ⟨_, rfl, ?_⟩
          refine OT.call Tryz.call57 rfl rfl rfl rfl (bytes_Clone (hr.there.there.there.there.there.there.there) (by omega)) ?_
          rintro v_42 hs_42 ⟨HB, rfl, hoB⟩
          obtain ⟨a4, c4, hv4⟩ := (hoB.row (hs := r)).len
          subst hv4
          refine OT.nil (.any (.op (fuel := 10) 8 kr rfl sl (.load rfl rfl (Ld.one hT rfl hz (show (frCells f vb)[3]? = some (.int .i64 f.lsn) from rfl)) rfl ?_)))
          refine OT.nil (.any (.takes (fuel := 7) hT [10, 11, 12] kr kr rfl (.op (fuel := 6) 13 kr rfl sl (.store hT rfl rfl rfl rfl pl rfl (Nat.le_of_ble_eq_true rfl) rfl (.inl (Nat.le_refl _)) (cs' := [.int .i64 f.no, .slice a4 bs.length c4, .bool f.dirty, .int .i64 f.lsn]) rfl ?_))))
          refine OT.nil (.any (.takes (fuel := 4) hT [14, 15] kr kr rfl (.op (fuel := 3) 16 kr rfl sl (.store hT rfl rfl rfl rfl pl rfl (Nat.le_of_ble_eq_true rfl) rfl (.inl (Nat.le_refl _)) (cs' := [.int .i64 f.no, .slice a4 bs.length c4, .bool true, .int .i64 f.lsn]) rfl ?_))))
          refine OT.nil (.any (.takes (fuel := 1) hT [17, 18] kr kr rfl (.op (fuel := 0) 19 kr rfl sl (.store hT rfl rfl rfl rfl pl rfl (Nat.le_of_ble_eq_true rfl) rfl (.inl (Nat.le_refl _)) (cs' := [.int .i64 f.no, .slice a4 bs.length c4, .bool true, .int .i64 (max f.lsn lsn)]) rfl ?_))))
          refine OT.nil (.any (.done kr sl (.seq (.seq (.region (.pures hT 1 rfl ?_))))))
          have hPn : PoolAt 5 109 106 v3 (us ++ [(.pointer (some ⟨bf, 0, none⟩), ⟨f.no, bs, true, max f.lsn lsn⟩, [(bf, blk [.int .i64 f.no, .slice a4 bs.length c4, .bool true, .int .i64 (max f.lsn lsn)] 109 (0, 0))] ++ HB)]) K3 := ⟨hau.snoc ⟨c19, hno, (by show 0 ≤ max f.lsn lsn; omega), ⟨bf, _, HB, rfl, hoB, rfl, rfl⟩⟩, by rw [ptrs_snoc]; exact ho3, hone3, by rw [List.length_append]; simp; omega⟩
          refine OT.call Tryz.call58 rfl rfl rfl rfl (Fun.weaken (hs' := [(b, blk [pd, pw, v3] 100 (0, 0))] :: K3 :: (chunk us ++ ([(bf, blk [.int .i64 f.no, .slice a4 bs.length c4, .bool true, .int .i64 (max f.lsn lsn)] 109 (0, 0))] ++ HB)) :: HL :: HD :: r) sl (by have h := buf_room (r := r) (b := b) hPn hl hd (n := 6) (by omega) (by rw [List.length_append]; simp; omega); rw [chunk_snoc] at h; exact h)) ?_
          rintro v_56 hs_56 ⟨v5, K5, us5, HL5, HD5, rfl, hP5, hlast, hfu, rfl, hl5, hd5⟩
          rw [frs_snoc] at hfu hl5 hd5 ⊢
          refine OT.pures hT 1 rfl (.nil (.seq (.ret (.of (rs := [.tmp 8]) [_] (([(b, blk [pd, pw, v5] 100 (0, 0))] ++ (K5 ++ chunk us5)) :: HL5 :: HD5 :: r) rfl (.tmp rfl .nil) sl ?_))))
          dsimp only [one]
          exact ⟨_, _, _, rfl, rfl, ⟨⟨b, _, _, _, rfl, hfu.symm, hP5, rfl⟩⟩, hl5, hd5⟩
        ·
          refine ⟨_, rfl, ?_⟩
          refine OT.load rfl rfl (Ld.one hT rfl hz (show (frCells f vb)[3]? = some (.int .i64 f.lsn) from rfl)) rfl ?_
          refine OT.nil (.any (.takes (fuel := 10) hT [10] kr kr rfl (.op (fuel := 9) 4 kr rfl sl (.call Tryz.call57 rfl rfl rfl rfl (bytes_Clone (hr.there.there.there.there.there.there.there) (by omega)) ?_))))
          rintro v_42 hs_42 ⟨HB, rfl, hoB⟩
          obtain ⟨a4, c4, hv4⟩ := (hoB.row (hs := r)).len
          subst hv4
          refine OT.nil (.any (.takes (fuel := 7) hT [11, 12] kr kr rfl (.op (fuel := 6) 13 kr rfl sl (.store hT rfl rfl rfl rfl pl rfl (Nat.le_of_ble_eq_true rfl) rfl (.inl (Nat.le_refl _)) (cs' := [.int .i64 f.no, .slice a4 bs.length c4, .bool f.dirty, .int .i64 f.lsn]) rfl ?_))))
          refine OT.nil (.any (.takes (fuel := 4) hT [14, 15] kr kr rfl (.op (fuel := 3) 16 kr rfl sl (.store hT rfl rfl rfl rfl pl rfl (Nat.le_of_ble_eq_true rfl) rfl (.inl (Nat.le_refl _)) (cs' := [.int .i64 f.no, .slice a4 bs.length c4, .bool true, .int .i64 f.lsn]) rfl ?_))))
          refine OT.nil (.any (.takes (fuel := 1) hT [17, 18] kr kr rfl (.op (fuel := 0) 19 kr rfl sl (.store hT rfl rfl rfl rfl pl rfl (Nat.le_of_ble_eq_true rfl) rfl (.inl (Nat.le_refl _)) (cs' := [.int .i64 f.no, .slice a4 bs.length c4, .bool true, .int .i64 (max f.lsn lsn)]) rfl ?_))))
          refine OT.nil (.any (.done kr sl (.seq (.seq (.region (.pures hT 1 rfl ?_))))))
          have hPn : PoolAt 5 109 106 v3 (us ++ [(.pointer (some ⟨bf, 0, none⟩), ⟨f.no, bs, true, max f.lsn lsn⟩, [(bf, blk [.int .i64 f.no, .slice a4 bs.length c4, .bool true, .int .i64 (max f.lsn lsn)] 109 (0, 0))] ++ HB)]) K3 := ⟨hau.snoc ⟨c19, hno, (by show 0 ≤ max f.lsn lsn; omega), ⟨bf, _, HB, rfl, hoB, rfl, rfl⟩⟩, by rw [ptrs_snoc]; exact ho3, hone3, by rw [List.length_append]; simp; omega⟩
          refine OT.call Tryz.call58 rfl rfl rfl rfl (Fun.weaken (hs' := [(b, blk [pd, pw, v3] 100 (0, 0))] :: K3 :: (chunk us ++ ([(bf, blk [.int .i64 f.no, .slice a4 bs.length c4, .bool true, .int .i64 (max f.lsn lsn)] 109 (0, 0))] ++ HB)) :: HL :: HD :: r) sl (by have h := buf_room (r := r) (b := b) hPn hl hd (n := 6) (by omega) (by rw [List.length_append]; simp; omega); rw [chunk_snoc] at h; exact h)) ?_
          rintro v_56 hs_56 ⟨v5, K5, us5, HL5, HD5, rfl, hP5, hlast, hfu, rfl, hl5, hd5⟩
          rw [frs_snoc] at hfu hl5 hd5 ⊢
          refine OT.pures hT 1 rfl (.nil (.seq (.ret (.of (rs := [.tmp 8]) [_] (([(b, blk [pd, pw, v5] 100 (0, 0))] ++ (K5 ++ chunk us5)) :: HL5 :: HD5 :: r) rfl (.tmp rfl .nil) sl ?_))))
          dsimp only [one]
          exact ⟨_, _, _, rfl, rfl, ⟨⟨b, _, _, _, rfl, hfu.symm, hP5, rfl⟩⟩, hl5, hd5⟩

set_option maxHeartbeats 4000000 in
set_option maxRecDepth 100000 in
theorem buf_Flush {p pd pw : Value} {fs : List Fr} {l : Log} {d : Dev} {H HL HD : Chunk} {r : List Chunk} (hp : IsPool 5 109 100 106 p pd pw fs H) (hl : IsLog 5 2 125 97 pw pd l HL) (hd : IsDev 83 69 pd d HD) (hturn : l.sup.turn + fs.length + 1 ≤ 4611686018427387904) (hfs : fs.length ≤ 1000000) {no : Int} : Fun Tryz.prog 34 [p, .int .i64 no] (H :: HL :: HD :: r) (fun v' hs' => ∃ H' HL' HD', hs' = H' :: HL' :: HD' :: r ∧ v' = .int .i64 (poolFlush fs l d no).1 ∧ IsPool 5 109 100 106 p pd pw (poolFlush fs l d no).2.1 H' ∧ IsLog 5 2 125 97 pw pd (poolFlush fs l d no).2.2.1 HL' ∧ IsDev 83 69 pd (poolFlush fs l d no).2.2.2 HD') := by
  refine Fun.enter 31 Tryz.func34 rfl Tryz.ntmps34 rfl ?_
  obtain ⟨b, v, ts, Kl, hpp, hfe, hP, hH⟩ := hp.is
  subst hpp
  subst hH
  subst hfe
  have hfl := frs_length ts
  have hplen := ptrs_length ts
  obtain ⟨av, cv, hv⟩ := (hP.own.row (hs := r)).len
  subst hv
  refine TT.perm perm3 (.seq (.region (.box rfl rfl rfl (fun b_3 => ?_))))
  refine OT.pures hT 1 rfl (.nil (.seq (.seq (.seq (.region (.pures hT 1 rfl (.load rfl rfl (Ld.one hT rfl hz rfl) rfl ?_)))))))
  refine OT.call Tryz.call55 rfl rfl rfl rfl (buf_may) ?_
  rintro v_9 hs_9 ⟨rfl, rfl⟩
  refine OT.pures hT 1 rfl (.nil (.seq (.seq (.region (.pures hT 2 rfl (.nil (.seq (.cond rfl (fun c11 => ?_) (fun c11 => ?_)))))))))
  ·
    have c15 : ¬ mayPage no := by intro h; unfold mayPool at c11; rw [if_pos h] at c11; simp at c11
    have hw : (poolFlush (frs ts) l d no) = (3, frs ts, l, d) := by unfold poolFlush; rw [if_pos c15]
    have hm : mayPool no = 3 := by unfold mayPool; rw [if_neg c15]
    rw [hw, hm]
    refine TT.seq (.region (.pures hT 2 rfl (.nil (.seq (.ret (.of (rs := [.tmp 4]) [_] (([(b, blk [pd, pw, .slice av (ptrs ts).length cv] 100 (0, 0))] ++ (Kl ++ chunk ts)) :: HL :: HD :: r) rfl (.tmp rfl .nil) sl ?_))))))
    dsimp only [one]
    exact ⟨_, _, _, rfl, rfl, ⟨⟨b, _, _, _, rfl, rfl, hP, rfl⟩⟩, hl, hd⟩
  ·
    have c15 : mayPage no := by refine Classical.byContradiction fun h => ?_; unfold mayPool at c11; rw [if_neg h] at c11; simp at c11
    refine TT.skip (.seq (.seq (.region (.pures hT 3 rfl (.load rfl rfl (Ld.slc hT rfl hz rfl) rfl ?_)))))
    refine OT.pures hT 1 rfl (.call Tryz.call59 rfl rfl rfl rfl (sl_IndexFr (q := (fun t : Tr => isNoDirty no t.2.1)) (N := 60) (caps := [.pointer (some ⟨b_3, 0, none⟩)]) (hP.own.row.there.there) hP.few Tryz.call60 (fun t ht => by obtain ⟨bf, vb, Kb, h1, h2, h3, h4, h5⟩ := chunk_has hP.all ht; rw [h1]; exact buf_flush1 (.there (.there (.there (.here h5)))) Has.one)) ?_)
    rintro v_18 hs_18 ⟨rfl, rfl⟩
    have hfi : firstAt (fun t : Tr => isNoDirty no t.2.1) 0 ts = firstAt (isNoDirty no) 0 (frs ts) := (firstAt_map _ _ _ _).symm
    rw [hfi]
    refine OT.pures hT 1 rfl (.nil (.seq (.seq (.seq (.region (.pures hT 2 rfl (.nil (.seq (.cond rfl (fun c20 => ?_) (fun c20 => ?_))))))))))
    ·
      have c20 := of_decide_eq_true c20
      have hw : (poolFlush (frs ts) l d no) = (0, frs ts, l, d) := by unfold poolFlush; rw [if_neg (by simpa using c15), if_pos c20]
      rw [hw]
      refine TT.seq (.region (.pures hT 1 rfl (.nil (.seq (.ret (.of (rs := [.tmp 4]) [_] (([(b, blk [pd, pw, .slice av (ptrs ts).length cv] 100 (0, 0))] ++ (Kl ++ chunk ts)) :: HL :: HD :: r) rfl (.tmp rfl .nil) sl ?_))))))
      dsimp only [one]
      exact ⟨_, _, _, rfl, rfl, ⟨⟨b, _, _, _, rfl, rfl, hP, rfl⟩⟩, hl, hd⟩
    ·
      have c20 := of_decide_eq_false c20
      have c20' := c20
      obtain ⟨i, hi, hil⟩ := firstAt_some c20
      rw [hfl] at hil
      obtain ⟨t, ht⟩ := nth (l := ts) (i := i) hil
      have hpt := ptrs_at ht
      obtain ⟨bf, vb, Kb, hq1, hq2, hq3, hq4, hq5⟩ := chunk_has hP.all (List.mem_of_getElem? ht)
      have hw : (poolFlush (frs ts) l d no) = ((poolClean (frs ts) [i] l d).2.2.2, (poolClean (frs ts) [i] l d).1, (poolClean (frs ts) [i] l d).2.1, (poolClean (frs ts) [i] l d).2.2.1) := by unfold poolFlush; rw [if_neg (by simpa using c15), if_neg c20', hi]; rfl
      rw [hw]
      rw [hi]
      refine TT.skip (.seq (.seq (.region (.pures hT 4 rfl (.load rfl rfl (Ld.slc hT rfl hz rfl) rfl ?_)))))
      refine OT.pures hT 1 rfl (.index hT rfl rfl rfl rfl (hP.own.row.there.there) (by omega) hpt rfl (fun ad_27 hel_27 => ?_))
      refine OT.load rfl rfl (hel_27.ld_one hT rfl rfl) rfl ?_
      refine OT.buildSlice (enc := encV) (xs := [t.1]) (xos := [.tmp 28]) el98 rfl rfl rfl rfl (by rw [hq1]; rfl) (by rw [hq1]; simp [Value.cells]) (fun _ _ => rfl) rfl (by decide) rfl (fun v_29 H_29 ho_29 => ?_)
      refine OT.call Tryz.call61 rfl rfl rfl rfl (Fun.weaken (hs' := [(b, blk [pd, pw, (.slice av (ptrs ts).length cv)] 100 (0, 0))] :: Kl :: chunk ts :: HL :: HD :: H_29 :: r) sl (buf_clean (r := H_29 :: r) hP hl hd (by omega) (ks := [i]) (by intro k hk; rw [List.mem_singleton] at hk; omega) (by simp) (by have h := ho_29.row (hs := r); have e : [t.1] = ([i].map fun k => (ptrs ts).getD k (.pointer none)) := (by simp [List.getD_eq_getElem?_getD, hpt]); rw [← e]; exact h))) ?_
      rintro v_30 hs_30 ⟨us, HL5, HD5, rfl, hpu, hau, hfu, rfl, hl5, hd5⟩
      refine OT.pures hT 1 rfl (.nil (.seq (.ret (.of (rs := [.tmp 4]) [_] (([(b, blk [pd, pw, .slice av (ptrs ts).length cv] 100 (0, 0))] ++ (Kl ++ chunk us)) :: HL5 :: HD5 :: r) rfl (.tmp rfl .nil) sl ?_))))
      dsimp only [one]
      have hul : us.length = ts.length := by rw [← ptrs_length us, hpu, ptrs_length]
      exact ⟨_, _, _, rfl, rfl, ⟨⟨b, _, _, _, rfl, hfu.symm, ⟨hau, by rw [hpu]; exact hP.own, rfl, by have := hP.few; omega⟩, rfl⟩⟩, hl5, hd5⟩

set_option maxHeartbeats 4000000 in
set_option maxRecDepth 100000 in
theorem buf_All {p pd pw : Value} {fs : List Fr} {l : Log} {d : Dev} {H HL HD : Chunk} {r : List Chunk} (hp : IsPool 5 109 100 106 p pd pw fs H) (hl : IsLog 5 2 125 97 pw pd l HL) (hd : IsDev 83 69 pd d HD) (hturn : l.sup.turn + fs.length + 1 ≤ 4611686018427387904) (hfs : fs.length ≤ 1000000) : Fun Tryz.prog 35 [p] (H :: HL :: HD :: r) (fun v' hs' => ∃ H' HL' HD', hs' = H' :: HL' :: HD' :: r ∧ v' = .int .i64 (poolAll fs l d).1 ∧ IsPool 5 109 100 106 p pd pw (poolAll fs l d).2.1 H' ∧ IsLog 5 2 125 97 pw pd (poolAll fs l d).2.2.1 HL' ∧ IsDev 83 69 pd (poolAll fs l d).2.2.2 HD') := by
  refine Fun.enter 29 Tryz.func35 rfl Tryz.ntmps35 rfl ?_
  obtain ⟨b, v, ts, Kl, hpp, hfe, hP, hH⟩ := hp.is
  subst hpp
  subst hH
  subst hfe
  have hfl := frs_length ts
  have hplen := ptrs_length ts
  obtain ⟨av, cv, hv⟩ := (hP.own.row (hs := r)).len
  subst hv
  refine TT.perm perm3 ?_
  have hfew := hP.few
  refine TT.seq (.region (.pures hT 1 rfl (.nil (.seq (.seq (.seq (.region (.pures hT 2 rfl (.nil (.seq (.cond_false rfl (.skip (.seq (.seq (.region (.pures hT 1 rfl (.nil (.seq (.seq (.seq (.region (.pures hT 3 rfl (.load rfl rfl (Ld.slc hT rfl hz rfl) rfl ?_)))))))))))))))))))))))
  refine OT.pures hT 2 rfl (.nil (.seq (.block (.chunk0 (.loop (ι := Nat × Value × Chunk) (fun j => (j.1) ≤ ts.length ∧ Own encV 1 106 (j.2.1) ((dirtyAt 0 ((frs ts).take (j.1))).map fun k => (ptrs ts).getD k (.pointer none)) (j.2.2)) (fun j => ts.length - (j.1)) (fun j => [(0, .pointer (some ⟨b, 0, none⟩)), (3, (j.2.1)), (11, .slice av (ptrs ts).length cv), (12, .int .i64 (ptrs ts).length), (13, .int .i64 ((j.1) : Nat))]) (fun j => (j.2.2) :: [(b, blk [pd, pw, (.slice av (ptrs ts).length cv)] 100 (0, 0))] :: Kl :: chunk ts :: HL :: HD :: r) (0, .slice none 0 0, []) ?_ (SubR.cons rfl (SubR.cons rfl (SubR.cons rfl (SubR.cons rfl (SubR.cons rfl (SubR.nil _)))))) sl ?_)))))
  · dsimp only
    exact ⟨by omega, Own.nil⟩
  rintro ⟨i, w, W⟩ hI
  dsimp only at hI
  obtain ⟨hi, hW⟩ := hI
  show TT _ _ _ [(0, .pointer (some ⟨b, 0, none⟩)), (3, w), (11, .slice av (ptrs ts).length cv), (12, .int .i64 (ptrs ts).length), (13, .int .i64 (i : Nat))] (W :: [(b, blk [pd, pw, (.slice av (ptrs ts).length cv)] 100 (0, 0))] :: Kl :: chunk ts :: HL :: HD :: r)
  refine TT.seq (.region (.pures hT 1 rfl (.nil (.seq (.seq (.cond rfl (fun c14 => ?_) (fun c14 => ?_)))))))
  ·
    have c14 := of_decide_eq_true c14
    obtain ⟨t, ht⟩ := nth (l := ts) (i := i) (by omega)
    have hpt := ptrs_at ht
    have hft := frs_at ht
    obtain ⟨bf, vb, Kb, hq1, hq2, hq3, hq4, hq5⟩ := chunk_has hP.all (List.mem_of_getElem? ht)
    have hdl := dirtyAt_length ((frs ts).take i) 0
    rw [List.length_take] at hdl
    refine TT.skip (.seq (.seq (.block (.seq (.region (.index hT rfl rfl rfl rfl (hP.own.row.there.there) (by omega) hpt rfl (fun ad_15 hel_15 => ?_)))))))
    refine OT.load rfl rfl (hel_15.ld_one hT rfl rfl) rfl (.reg 16 rfl (v := .pointer (some ⟨bf, 0, none⟩)) hq1 (.pures hT 1 rfl (.nil (.seq (.seq (.region (.pures hT 3 rfl (.load rfl rfl (Ld.one hT rfl (.there (.there (.there (.here hq5)))) rfl) rfl (.nil (.seq (.cond rfl (fun c20 => ?_) (fun c20 => ?_))))))))))))
    ·
      have hds := dirtyAt_snoc hft 0
      rw [if_pos (show t.2.1.dirty = true from c20), Nat.zero_add] at hds
      refine TT.region (.pures hT 2 rfl ?_)
      refine OT.buildSlice (enc := encV) (xs := [t.1]) (xos := [.tmp 22]) el98 rfl rfl rfl rfl (by rw [hq1]; rfl) (by simp [Value.cells]) (fun _ _ => rfl) rfl (by decide) rfl (fun v_23 H_23 ho_23 => ?_)
      refine OT.append hT el98 rfl rfl rfl rfl pl hW ro (by rw [hq1]; rfl) (by simp only [List.length_map, List.length_cons, List.length_nil]; omega) rfl (fun v_24 H_24 ho_24 => ?_)
      refine OT.pures hT 1 rfl (.nil (.blk (.seq (.region (.pures hT 2 rfl (.nil (.loop (i + 1, v_24, H_24) ?_ ?_ (SubR.cons rfl (SubR.cons rfl (SubR.cons rfl (SubR.cons rfl (SubR.cons' rfl (by (try dsimp only); exact (int_eq (by rw [wrap_i64 (by omega) (by omega)]; omega))) (SubR.nil _)))))) sl)))))))
      · dsimp only
        refine ⟨by omega, ?_⟩
        rw [hds, List.map_append]
        have e : [t.1] = ([i].map fun k => (ptrs ts).getD k (.pointer none)) := by simp [List.getD_eq_getElem?_getD, hpt]
        rw [← e]; exact ho_24
      · dsimp only
        omega
    ·
      have hds := dirtyAt_snoc hft 0
      rw [if_neg (by rw [show t.2.1.dirty = false from c20]; decide), List.append_nil] at hds
      refine TT.skip (.blk (.seq (.region (.pures hT 2 rfl (.nil (.loop (i + 1, w, W) ?_ ?_ (SubR.cons rfl (SubR.cons rfl (SubR.cons rfl (SubR.cons rfl (SubR.cons' rfl (by (try dsimp only); exact (int_eq (by rw [wrap_i64 (by omega) (by omega)]; omega))) (SubR.nil _)))))) sl))))))
      · dsimp only
        exact ⟨by omega, by rw [hds]; exact hW⟩
      · dsimp only
        omega
  ·
    have c14 := of_decide_eq_false c14
    obtain rfl : i = ts.length := by omega
    rw [show (frs ts).take ts.length = frs ts by rw [← hfl, List.take_length]] at hW
    refine TT.exit (.seq (.loop (.here (.seq (.seq (.region (.pures hT 2 rfl (.call Tryz.call61 rfl rfl rfl rfl (Fun.weaken (hs' := [(b, blk [pd, pw, (.slice av (ptrs ts).length cv)] 100 (0, 0))] :: Kl :: chunk ts :: HL :: HD :: W :: r) sl (buf_clean (r := W :: r) hP hl hd (by omega) (ks := dirtyAt 0 (frs ts)) (by intro k hk; have := dirtyAt_lt hk; omega) (by have := dirtyAt_length (frs ts) 0; omega) hW.row)) ?_))))))))
    rintro v_28 hs_28 ⟨us, HL5, HD5, rfl, hpu, hau, hfu, rfl, hl5, hd5⟩
    refine OT.pures hT 1 rfl (.nil (.seq (.ret (.of (rs := [.tmp 2]) [_] (([(b, blk [pd, pw, .slice av (ptrs ts).length cv] 100 (0, 0))] ++ (Kl ++ chunk us)) :: HL5 :: HD5 :: r) rfl (.tmp rfl .nil) sl ?_))))
    dsimp only [one]
    have hul : us.length = ts.length := by rw [← ptrs_length us, hpu, ptrs_length]
    exact ⟨_, _, _, rfl, rfl, ⟨⟨b, _, _, _, rfl, hfu.symm, ⟨hau, by rw [hpu]; exact hP.own, rfl, by have := hP.few; omega⟩, rfl⟩⟩, hl5, hd5⟩

end Go.Proofs.YtoalhcodigpgkaaGreatDoor.Sx
end

section
namespace Go.Proofs.YtoalhcodigpgkaaGreatDoor.Sx
open Go Go.Sx Go.Pl
variable [Outer]

set_option maxHeartbeats 1000000 in
set_option maxRecDepth 100000 in
theorem by_Equal {v w : Value} {xs ys : List UInt8} {hs : List Chunk} (hr : Row Go.Sx.encB 1 hs v xs) (hq : Row Go.Sx.encB 1 hs w ys) : Fun Tryz.prog 69 [v, w] hs (fun v' hs' => v' = .bool (decide (xs = ys)) ∧ hs = hs') := by
  refine Fun.enter 10 Tryz.func69 rfl Tryz.ntmps69 rfl ?_
  refine TT.seq (.region (.pures hT 1 rfl (.nil (.seq (.seq (.region (.pures hT 1 rfl (.conv_bs (fun _ => rfl) hT rfl rfl rfl rfl rfl hr rfl (.pures hT 1 rfl (.conv_bs (fun _ => rfl) hT rfl rfl rfl rfl rfl hq rfl (.pures hT 2 rfl (.nil (.seq (.ret (.of (rs := [.tmp 4]) [_] hs rfl (.tmp rfl .nil) sl ?_)))))))))))))))
  dsimp only [one]
  refine ⟨congrArg Value.bool (decide_eq_decide.2 ?_), rfl⟩
  constructor
  · intro h; injection h with h; injection h
  · intro h; rw [h]

omit [Outer] in
theorem logc_at {pd ps v : Value} {ring : List UInt8} {base forced end_ : Nat} {bad : Bool} (h : ring.length = 65536) {i : Nat} (hi : i < 65536) : (logCells pd ps ring base forced end_ v bad)[2 + i]? = some (.int .u8 ((ring.getD i 0).toNat : Int)) := by
  have h1 := logc_ring (pd := pd) (ps := ps) (v := v) (base := base) (forced := forced) (end_ := end_) (bad := bad) h (i := i) (n := 1) (by omega)
  have h2 : (((logCells pd ps ring base forced end_ v bad).drop (2 + i)).take 1)[0]? = (((ring.drop i).take 1).flatMap Go.Sx.encB)[0]? := by rw [h1]
  rw [List.getElem?_take, if_pos (by omega), List.getElem?_drop, Nat.add_zero] at h2
  obtain ⟨c, hc⟩ := nth (l := ring) (i := i) (by omega)
  rw [h2, drop_cons hc, List.getD_eq_getElem?_getD, hc]
  rfl

set_option maxHeartbeats 1000000 in
set_option maxRecDepth 100000 in
theorem wal_get {b : Nat} {pd ps v : Value} {ring : List UInt8} {base forced end_ : Nat} {bad : Bool} (hrl : ring.length = 65536) {r : List Chunk} {from_ to : Nat} (hft : from_ ≤ to) (hto : to ≤ 1152921504606846976) (hfew : to ≤ from_ + 65536) : Fun Tryz.prog 70 [.pointer (some ⟨b, 0, none⟩), .int .i64 (from_ : Nat), .int .i64 (to : Nat)] ([(b, blk (logCells pd ps ring base forced end_ v bad) 97 (0, 0))] :: r) (fun v' hs' => ∃ H', hs' = H' :: [(b, blk (logCells pd ps ring base forced end_ v bad) 97 (0, 0))] :: r ∧ Own Go.Sx.encB 1 5 v' (ringGet ring from_ (to - from_)) H' ∧ oneC v' = true) := by
  refine Fun.enter 26 Tryz.func70 rfl Tryz.ntmps70 rfl ?_
  refine TT.seq (.region (.pures hT 1 rfl (.nil (.seq (.seq (.region (.pures hT 3 rfl (.reg 10 rfl (v := .int .i64 ((to - from_ : Nat) : Int)) (int_eq (by rw [wrap_i64 (by omega) (by omega)]; omega)) (.makeCap (enc := Go.Sx.encB) (z0 := 0) (n := (to - from_)) el33 Tryz.zeroValue5 rfl rfl rfl rfl rfl (by omega) rfl (fun a_11 H_11 ho_11 => ?_))))))))))
  refine OT.pures hT 1 rfl (.nil (.seq (.seq (.block (.loop (ι := Nat × Value × Chunk) (fun j => (j.1) ≤ to - from_ ∧ Own Go.Sx.encB 1 5 (j.2.1) (ringGet ring from_ (j.1)) (j.2.2) ∧ oneC (j.2.1) = true) (fun j => to - from_ - (j.1)) (fun j => [(0, .pointer (some ⟨b, 0, none⟩)), (1, .int .i64 ((from_ + (j.1) : Nat) : Int)), (2, .int .i64 (to : Nat)), (7, (j.2.1))]) (fun j => (j.2.2) :: [(b, blk (logCells pd ps ring base forced end_ v bad) 97 (0, 0))] :: r) (0, .slice a_11 0 (to - from_), H_11) ?_ (SubR.cons rfl (SubR.cons rfl (SubR.cons rfl (SubR.cons rfl (SubR.nil _))))) sl ?_)))))
  · dsimp only
    exact ⟨by omega, ho_11, rfl⟩
  rintro ⟨i, w, K⟩ hI
  dsimp only at hI
  obtain ⟨hi, hO, how⟩ := hI
  show TT _ _ _ [(0, .pointer (some ⟨b, 0, none⟩)), (1, .int .i64 ((from_ + i : Nat) : Int)), (2, .int .i64 (to : Nat)), (7, w)] (K :: [(b, blk (logCells pd ps ring base forced end_ v bad) 97 (0, 0))] :: r)
  refine TT.seq (.seq (.region (.pures hT 3 rfl (.nil (.seq (.cond rfl (fun c14 => ?_) (fun c14 => ?_)))))))
  ·
    have c14 := of_decide_eq_true c14
    have hrg := ringGet_length ring i from_
    refine TT.skip (.seq (.seq (.block (.region (.pures hT 3 rfl (.call Tryz.call80 rfl rfl rfl rfl (wal_at) ?_))))))
    rintro v_20 hs_20 ⟨rfl, rfl⟩
    refine OT.pures hT 1 rfl (.load rfl rfl (Ld.one hT rfl hz (logc_at hrl (by omega))) rfl ?_)
    refine OT.buildSlice (enc := Go.Sx.encB) (xs := [ring.getD ((from_ + i) % 65536) 0]) (xos := [.tmp 22]) el33 rfl rfl rfl rfl rfl (by simp [Value.cells]) (fun _ _ => rfl) rfl (by decide) rfl (fun v_23 H_23 ho_23 => ?_)
    refine OT.append hT el33 rfl rfl rfl rfl pl hO ro rfl (by simp only [List.length_cons, List.length_nil]; omega) rfl (fun v_24 H_24 ho_24 => ?_)
    obtain ⟨a24, c24, hv24⟩ := (ho_24.row (hs := r)).len
    subst hv24
    refine OT.pures hT 1 rfl (.nil (.blk (.seq (.region (.pures hT 3 rfl (.nil (.loop (i + 1, .slice a24 ((ringGet ring from_ i) ++ [ring.getD ((from_ + i) % 65536) 0]).length c24, H_24) ?_ ?_ (SubR.cons rfl (SubR.cons' rfl (by (try dsimp only); exact (int_eq (by rw [wrap_i64 (by omega) (by omega)]; omega))) (SubR.cons rfl (SubR.cons rfl (SubR.nil _))))) sl)))))))
    · dsimp only
      exact ⟨by omega, by rw [ringGet_snoc]; exact ho_24, rfl⟩
    · dsimp only
      omega
  ·
    have c14 := of_decide_eq_false c14
    obtain rfl : i = to - from_ := by omega
    refine TT.exit (.seq (.loop (.here (.seq (.seq (.region (.pures hT 2 rfl (.nil (.seq (.ret (.of (rs := [.tmp 6]) [_] (K :: [(b, blk (logCells pd ps ring base forced end_ v bad) 97 (0, 0))] :: r) rfl (.tmp rfl .nil) sl ?_)))))))))))
    dsimp only [one]
    exact ⟨_, rfl, hO, how⟩

set_option maxHeartbeats 4000000 in
set_option maxRecDepth 100000 in
theorem wal_Open {p : Value} {d : Dev} {H : Chunk} {r : List Chunk} (hd : IsDev 83 69 p d H) {s : Sup} {base end_ : Nat} {rs : List (List UInt8)} (ho : Opens d s base end_ rs) : Fun Tryz.prog 43 [p] (H :: r) (fun v' hs' => ∃ q w HL HR, hs' = HL :: HR :: H :: r ∧ v' = .tuple ⟨[q, w, .int .i64 0]⟩ ∧ IsLog 5 2 125 97 q p (openLog d s base end_) HL ∧ IsRows 5 33 w rs HR) := by
  refine Fun.enter 140 Tryz.func43 rfl Tryz.ntmps43 rfl ?_
  have hmost := hd.ok.most
  have h14 := ho.len
  have hob := ho.order
  have hom := ho.most
  have hor := ho.room
  obtain ⟨hg1, hg2⟩ := get_text (a := base) (b := end_) (by omega) (by omega)
  have htl := logText_length (a := base) (b := end_) (by omega) (by omega)
  have hpl := put_ten (n := (base : Int)) (by omega) (by omega)
  have hokl := openLog_ok hd.ok ho
  have hrl : (Log.load d).length = 65536 := hokl.ring
  obtain ⟨bp, hpd⟩ := hd.ptr
  subst hpd
  refine TT.seq (.region (.pures hT 3 rfl (.nil (.seq (.seq (.seq (.region (.pures hT 1 rfl (.call Tryz.call23 rfl rfl rfl rfl (dev_Len hd) ?_)))))))))
  rintro v_19 hs_19 ⟨rfl, rfl⟩
  refine OT.pures hT 1 rfl (.nil (.seq (.cond rfl (fun c20 => ?_) (fun c20 => ?_))))
  ·
    exact absurd (of_decide_eq_true c20) (by omega)
  ·
    refine TT.skip (.seq (.seq (.region (.pures hT 1 rfl (.call Tryz.call66 rfl rfl rfl rfl (super_Open hd (by omega) (by omega)) ?_)))))
    rintro v_23 hs_23 ⟨ps, HS, rfl, rfl, hopt⟩
    rw [ho.sup] at hopt ⊢
    dsimp only at hopt ⊢
    have hSup : IsSup 5 125 ps (.pointer (some ⟨bp, 0, none⟩)) 0 s HS := hopt
    obtain ⟨bs, hps⟩ := hSup.ptr
    subst hps
    refine OT.pures hT 5 rfl (.nil (.seq (.seq (.seq (.region (.pures hT 2 rfl (.nil (.seq (.cond rfl (fun c27 => ?_) (fun c27 => ?_))))))))))
    ·
      exact absurd c27 (by decide)
    ·
      refine TT.skip (.seq (.seq (.region (.pures hT 1 rfl (.call Tryz.call68 rfl rfl rfl rfl (super_Text hSup) ?_)))))
      rintro v_31 hs_31 ⟨H1, rfl, ho1⟩
      rw [ho.text] at ho1
      refine OT.call Tryz.call67 rfl rfl rfl rfl (num_Get ho1.row (by omega)) ?_
      rintro v_32 hs_32 ⟨rfl, rfl⟩
      rw [hg1]
      dsimp only
      refine OT.pures hT 7 rfl (.nil (.seq (.seq (.seq (.region (.pures hT 2 rfl (.nil (.seq (.cond rfl (fun c37 => ?_) (fun c37 => ?_))))))))))
      ·
        exact absurd c37 (by decide)
      ·
        refine TT.skip (.seq (.seq (.region (.pures hT 1 rfl (.call Tryz.call68 rfl rfl rfl rfl (Fun.pull pl (super_Text hSup)) ?_)))))
        rintro v_40 hs_40 ⟨H2, rfl, ho2⟩
        rw [ho.text] at ho2
        refine OT.pures hT 1 rfl (.slice (put (base : Int)).length (logText base end_).length hT rfl rfl rfl rfl rfl ho2.row (.inr ⟨_, rfl⟩) (.inl ⟨rfl, rfl⟩) (by unfold logText; rw [List.length_append]; omega) (by omega) rfl (fun v_42 hv_42 => ?_))
        refine OT.call Tryz.call67 rfl rfl rfl rfl (num_Get hv_42 (by rw [List.length_drop, List.length_take]; omega)) ?_
        rintro v_43 hs_43 ⟨rfl, rfl⟩
        rw [List.take_length, hg2]
        dsimp only
        refine OT.pures hT 7 rfl (.nil (.seq (.seq (.seq (.region (.pures hT 3 rfl (.split 49 rfl (fun g49 => ?_) (fun g49 => ?_))))))))
        ·
          exact absurd g49 (by decide)
        ·
          refine OT.pures hT 4 rfl (.split 53 rfl (fun g53 => ?_) (fun g53 => ?_))
          ·
            exact absurd (of_decide_eq_true g53) (by omega)
          ·
            refine OT.pures hT 5 rfl (.split 58 rfl (fun g58 => ?_) (fun g58 => ?_))
            ·
              exact absurd (of_decide_eq_true g58) (by omega)
            ·
              refine OT.pures hT 6 rfl (.split 64 rfl (fun g64 => ?_) (fun g64 => ?_))
              ·
                exact absurd (of_decide_eq_true g64) (by rw [wrap_i64 (by omega) (by omega)]; omega)
              ·
                refine OT.pures hT 2 rfl (.call Tryz.call49 rfl rfl rfl rfl (wal_text (x := base) (y := end_) (by omega) (by omega)) ?_)
                rintro v_67 hs_67 ⟨H3, rfl, ho3⟩
                refine OT.pures hT 1 rfl (.call Tryz.call68 rfl rfl rfl rfl (Fun.pull pl (super_Text hSup)) ?_)
                rintro v_69 hs_69 ⟨H4, rfl, ho4⟩
                rw [ho.text] at ho4
                refine OT.call Tryz.call69 rfl rfl rfl rfl (by_Equal ho3.row.there.there ho4.row) ?_
                rintro v_70 hs_70 ⟨rfl, rfl⟩
                rw [decide_eq_true rfl]
                refine OT.pures hT 2 rfl (.nil (.seq (.cond rfl (fun c72 => ?_) (fun c72 => ?_))))
                ·
                  exact absurd c72 (by decide)
                ·
                  refine TT.skip (.seq (.seq (.region (.pures hT 5 rfl (.build (cs := logCells (.pointer (some ⟨bp, 0, none⟩)) (.pointer (some ⟨bs, 0, none⟩)) (noughts 65536) base end_ end_ (.slice none 0 0) false) hT rfl Tryz.zeroValue97 rfl rfl (show fillL logFields Tryz.zeroCells97.toList _ = _ from zeroLog ▸ fill_log2 (noughts_length _) _ _ _ _) rfl (.box rfl rfl rfl (fun b_79 => ?_)))))))
                  refine OT.pures hT 1 rfl (.nil (.seq (.seq (.seq (.region (.pures hT 1 rfl (.call Tryz.call50 rfl rfl rfl rfl (Fun.weaken (hs' := [(b_79, blk (logCells (.pointer (some ⟨bp, 0, none⟩)) (.pointer (some ⟨bs, 0, none⟩)) (noughts 65536) base end_ end_ (.slice none 0 0) false) 97 (0, 0))] :: H :: HS :: r) sl (wal_load (base := base) (forced := end_) (end_ := end_) (noughts_length _) hd (by omega))) ?_)))))))
                  rintro v_81 hs_81 ⟨rfl, rfl⟩
                  refine OT.pures hT 1 rfl (.nil (.seq (.seq (.region (.pures hT 2 rfl (.nil (.seq (.cond rfl (fun c83 => ?_) (fun c83 => ?_)))))))))
                  ·
                    exact absurd c83 (by decide)
                  ·
                    refine TT.skip (.seq (.seq (.region (.pures hT 1 rfl (.nil (.seq (.seq (.seq (.region (.pures hT 2 rfl (.nil (.seq (.block (.chunk0 (.chunk0 (.loop (ι := Nat × Nat × (List Rw) × (List (List UInt8)) × Value × Chunk) (fun j => base ≤ (j.1) ∧ (j.1) ≤ end_ ∧ recsFrom (Log.load d) end_ (j.2.1) (j.1) = some (j.2.2.2.1) ∧ (j.2.2.1).map (·.2.1) ++ (j.2.2.2.1) = rs ∧ (∀ t ∈ (j.2.2.1), IsRw 5 t) ∧ Own encV 1 33 (j.2.2.2.2.1) ((j.2.2.1).map (·.1)) (j.2.2.2.2.2) ∧ oneC (j.2.2.2.2.1) = true ∧ (j.2.2.1).length ≤ (j.1) - base) (fun j => end_ - (j.1)) (fun j => [(9, .int .i64 (end_ : Nat)), (11, .pointer (some ⟨b_79, 0, none⟩)), (13, (j.2.2.2.2.1)), (14, .int .i64 ((j.1) : Nat))]) (fun j => [(b_79, blk (logCells (.pointer (some ⟨bp, 0, none⟩)) (.pointer (some ⟨bs, 0, none⟩)) (Log.load d) base end_ end_ (.slice none 0 0) false) 97 (0, 0))] :: (j.2.2.2.2.2) :: rwChunk (j.2.2.1) :: HS :: H :: r) (base, 65536, [], rs, .slice none 0 0, []) ?_ (SubR.cons rfl (SubR.cons rfl (SubR.cons rfl (SubR.cons rfl (SubR.nil _))))) (by rw [show rwChunk [] = [] from rfl]; exact sl) ?_))))))))))))))))
                    · dsimp only
                      exact ⟨by omega, by omega, ho.recs, rfl, by simp, Own.nil, rfl, by simp⟩
                    rintro ⟨at_, f, ts, rest, w, K⟩ hI
                    dsimp only at hI
                    obtain ⟨hab, hae, hrec, hall, hts, hO, how, hfew⟩ := hI
                    show TT _ _ _ [(9, .int .i64 (end_ : Nat)), (11, .pointer (some ⟨b_79, 0, none⟩)), (13, w), (14, .int .i64 (at_ : Nat))] ([(b_79, blk (logCells (.pointer (some ⟨bp, 0, none⟩)) (.pointer (some ⟨bs, 0, none⟩)) (Log.load d) base end_ end_ (.slice none 0 0) false) 97 (0, 0))] :: K :: rwChunk ts :: HS :: H :: r)
                    refine TT.seq (.seq (.region (.pures hT 3 rfl (.nil (.seq (.cond rfl (fun c88 => ?_) (fun c88 => ?_)))))))
                    ·
                      have c88 := of_decide_eq_true c88
                      obtain ⟨f', rest', rfl, hn1, hn2, hn3, rfl, hrec'⟩ := recsFrom_step hrec (by omega)
                      have h4 : 4 ≤ end_ - at_ := by omega
                      have hrl4 : (recLen (Log.load d) at_ end_) = fromBe (ringGet (Log.load d) at_ 4) := by unfold recLen; rw [if_pos h4]
                      refine TT.skip (.seq (.block (.seq (.region (.pures hT 1 rfl (.nil (.seq (.seq (.seq (.region (.pures hT 4 rfl (.nil (.seq (.cond rfl (fun c92 => ?_) (fun c92 => ?_)))))))))))))))
                      ·
                        refine TT.seq (.region (.pures hT 4 rfl (.reg 96 rfl (v := .int .i64 ((at_ + 4 : Nat) : Int)) (int_eq (by rw [wrap_i64 (by omega) (by omega)]; omega)) (.call Tryz.call70 rfl rfl rfl rfl (wal_get hrl (from_ := at_) (to := at_ + 4) (by omega) (by omega) (by omega)) ?_))))
                        rintro v_97 hs_97 ⟨HG, rfl, hoG, hgo⟩
                        rw [show at_ + 4 - at_ = 4 by omega] at hoG
                        obtain ⟨a97, c97, hv97⟩ := (hoG.row (hs := r)).len
                        subst hv97
                        have hgl := ringGet_length (Log.load d) 4 at_
                        rw [hgl]
                        refine OT.pures hT 2 rfl (.nil (.seq (.block (.loop (ι := Nat) (fun j => (j) ≤ 4) (fun j => 4 - (j)) (fun j => [(9, .int .i64 (end_ : Nat)), (11, .pointer (some ⟨b_79, 0, none⟩)), (13, w), (14, .int .i64 (at_ : Nat)), (15, .int .i64 (fromBe ((ringGet (Log.load d) at_ 4).take (j)) : Nat)), (97, .slice a97 4 c97), (98, .int .i64 4), (99, .int .i64 ((j) : Nat))]) (fun j => HG :: [(b_79, blk (logCells (.pointer (some ⟨bp, 0, none⟩)) (.pointer (some ⟨bs, 0, none⟩)) (Log.load d) base end_ end_ (.slice none 0 0) false) 97 (0, 0))] :: K :: rwChunk ts :: HS :: H :: r) (0) ?_ (SubR.cons rfl (SubR.cons rfl (SubR.cons rfl (SubR.cons rfl (SubR.cons' rfl (by (try dsimp only); exact (rfl)) (SubR.cons rfl (SubR.cons rfl (SubR.cons rfl (SubR.nil _))))))))) sl ?_))))
                        · omega
                        rintro i hi
                        show TT _ _ _ [(9, .int .i64 (end_ : Nat)), (11, .pointer (some ⟨b_79, 0, none⟩)), (13, w), (14, .int .i64 (at_ : Nat)), (15, .int .i64 (fromBe ((ringGet (Log.load d) at_ 4).take i) : Nat)), (97, .slice a97 4 c97), (98, .int .i64 4), (99, .int .i64 (i : Nat))] (HG :: [(b_79, blk (logCells (.pointer (some ⟨bp, 0, none⟩)) (.pointer (some ⟨bs, 0, none⟩)) (Log.load d) base end_ end_ (.slice none 0 0) false) 97 (0, 0))] :: K :: rwChunk ts :: HS :: H :: r)
                        refine TT.seq (.region (.pures hT 1 rfl (.nil (.seq (.seq (.cond rfl (fun c100 => ?_) (fun c100 => ?_)))))))
                        ·
                          have c100 := of_decide_eq_true c100
                          obtain ⟨c, hc⟩ := nth (l := ringGet (Log.load d) at_ 4) (i := i) (by omega)
                          have hlt := fromBe_lt ((ringGet (Log.load d) at_ 4).take i)
                          have hlt : fromBe ((ringGet (Log.load d) at_ 4).take i) < 16777216 := Nat.lt_of_lt_of_le hlt (Nat.le_trans (Nat.pow_le_pow_right (by omega) (show ((ringGet (Log.load d) at_ 4).take i).length ≤ 3 by rw [List.length_take]; omega)) (by decide))
                          refine TT.skip (.seq (.seq (.block (.seq (.region (.index hT rfl rfl rfl rfl (hgl ▸ hoG.row) (by omega) hc rfl (fun ad_101 hel_101 => ?_)))))))
                          refine OT.load rfl rfl (hel_101.ld_one hT rfl rfl) rfl (.pures hT 1 rfl (.nil (.seq (.region (.pures hT 6 rfl (.nil (.blk (.seq (.region (.pures hT 2 rfl (.nil (.loop (i + 1) ?_ ?_ (SubR.cons rfl (SubR.cons rfl (SubR.cons rfl (SubR.cons rfl (SubR.cons' rfl (by (try dsimp only); exact (int_eq (by rw [shl8or_i hlt, take_succ hc, fromBe_snoc]))) (SubR.cons rfl (SubR.cons rfl (SubR.cons' rfl (by (try dsimp only); exact (int_eq (by rw [wrap_i64 (by omega) (by omega)]; omega))) (SubR.nil _))))))))) sl))))))))))))
                          · omega
                          · omega
                        ·
                          have c100 := of_decide_eq_false c100
                          obtain rfl : i = 4 := by omega
                          rw [List.take_of_length_le (by omega), ← hrl4]
                          refine TT.exit (.seq (.loop (.here (.seq (.seq (.seq (.region (.pures hT 3 rfl (.split 111 rfl (fun g111 => ?_) (fun g111 => ?_))))))))))
                          ·
                            exact absurd (of_decide_eq_true g111) (by omega)
                          ·
                            refine OT.pures hT 4 rfl (.split 115 rfl (fun g115 => ?_) (fun g115 => ?_))
                            ·
                              exact absurd (of_decide_eq_true g115) (by omega)
                            ·
                              refine OT.pures hT 7 rfl (.nil (.seq (.cond rfl (fun c122 => ?_) (fun c122 => ?_))))
                              ·
                                exact absurd (of_decide_eq_true c122) (by rw [wrap_i64 (n := (end_ : Int) - at_) (by omega) (by omega), wrap_i64 (by omega) (by omega)]; omega)
                              ·
                                refine TT.skip (.seq (.seq (.region (.pures hT 8 rfl (.reg 126 rfl (v := .int .i64 ((at_ + 4 : Nat) : Int)) (int_eq (by rw [wrap_i64 (by omega) (by omega)]; omega)) (.reg 130 rfl (v := .int .i64 ((at_ + 4 + (recLen (Log.load d) at_ end_) : Nat) : Int)) (int_eq (by rw [wrap_i64 (n := (at_ : Int) + 4) (by omega) (by omega), wrap_i64 (by omega) (by omega)]; omega)) (.call Tryz.call70 rfl rfl rfl rfl (Fun.pull pl (wal_get hrl (from_ := at_ + 4) (to := at_ + 4 + (recLen (Log.load d) at_ end_)) (by omega) (by omega) (by omega))) ?_)))))))
                                rintro v_131 hs_131 ⟨HB, rfl, hoB, hbo⟩
                                rw [show at_ + 4 + (recLen (Log.load d) at_ end_) - (at_ + 4) = (recLen (Log.load d) at_ end_) by omega] at hoB
                                obtain ⟨a131, c131, hv131⟩ := (hoB.row (hs := r)).len
                                subst hv131
                                refine OT.buildSlice (enc := encV) (xs := [(.slice a131 (ringGet (Log.load d) (at_ + 4) (recLen (Log.load d) at_ end_)).length c131)]) (xos := [.tmp 131]) el84 rfl rfl rfl rfl rfl (by simp [Value.cells]) (fun _ _ => rfl) rfl (by decide) rfl (fun v_132 H_132 ho_132 => ?_)
                                refine OT.append hT el84 rfl rfl rfl rfl pl hO ro rfl (by simp only [List.length_cons, List.length_nil, List.length_map]; omega) rfl (fun v_133 H_133 ho_133 => ?_)
                                obtain ⟨a133, c133, hv133⟩ := (ho_133.row (hs := r)).len
                                subst hv133
                                refine OT.pures hT 1 rfl (.nil (.seq (.region (.pures hT 5 rfl (.nil (.blk (.loop (at_ + 4 + (recLen (Log.load d) at_ end_), f', ts ++ [((.slice a131 (ringGet (Log.load d) (at_ + 4) (recLen (Log.load d) at_ end_)).length c131), ringGet (Log.load d) (at_ + 4) (recLen (Log.load d) at_ end_), HB)], rest', .slice a133 _ c133, H_133) ?_ ?_ (SubR.cons rfl (SubR.cons rfl (SubR.cons rfl (SubR.cons' rfl (by (try dsimp only); exact (int_eq (by rw [wrap_i64 (n := 4 + ((recLen (Log.load d) at_ end_) : Int)) (by omega) (by omega), wrap_i64 (by omega) (by omega)]; omega))) (SubR.nil _))))) (by rw [rwChunk_snoc]; exact sl))))))))
                                · dsimp only
                                  refine ⟨by omega, by omega, hrec', by simpa using hall, ?_, by rw [List.map_append]; exact ho_133, rfl, by rw [List.length_append]; simp only [List.length_cons, List.length_nil]; omega⟩
                                  intro t ht
                                  rcases List.mem_append.1 ht with ht | ht
                                  · exact hts t ht
                                  · rw [List.mem_singleton] at ht; subst ht; exact ⟨hoB, hbo⟩
                                · dsimp only
                                  omega
                      ·
                        exact absurd (of_decide_eq_false c92) (by rw [wrap_i64 (by omega) (by omega)]; omega)
                    ·
                      have c88 := of_decide_eq_false c88
                      obtain rfl : end_ = at_ := by omega
                      rw [recsFrom_done (by omega)] at hrec
                      obtain rfl := Option.some.inj hrec
                      rw [List.append_nil] at hall
                      refine TT.exit (.seq (.loop (.here (.seq (.seq (.region (.pures hT 5 rfl (.nil (.seq (.ret (.of (rs := [.tmp 2, .tmp 3, .tmp 4]) [_, _, _] (([(b_79, blk (logCells (.pointer (some ⟨bp, 0, none⟩)) (.pointer (some ⟨bs, 0, none⟩)) (Log.load d) base end_ end_ (.slice none 0 0) false) 97 (0, 0))] ++ (HS ++ [])) :: (K ++ rwChunk ts) :: H :: r) rfl (.tmp rfl (.tmp rfl (.tmp rfl .nil))) sl ?_)))))))))))
                      dsimp only [one]
                      exact ⟨_, _, _, _, rfl, rfl, ⟨hokl, ⟨b_79, _, _, HS, [], rfl, hSup, Own.nil, rfl, rfl⟩⟩, ⟨ts, K, hts, hall, hO, rfl⟩⟩

end Go.Proofs.YtoalhcodigpgkaaGreatDoor.Sx
end

section
namespace Go.Proofs.YtoalhcodigpgkaaGreatDoor.Sx
open Go Go.Sx Go.Pl
variable [Outer]

set_option maxHeartbeats 1000000 in
set_option maxRecDepth 100000 in
theorem str_trimByte {bs : List UInt8} {hs : List Chunk} (hl : bs.length ≤ 1073741824) : Fun Tryz.prog 76 [.string (txt bs), .int .u8 0] hs (fun v' hs' => v' = .string (txt (trim bs)) ∧ hs = hs') := by
  refine Fun.enter 23 Tryz.func76 rfl Tryz.ntmps76 rfl ?_
  refine TT.seq (.region (.pures hT 1 rfl (.nil (.seq (.seq (.block (.loop (ι := Nat) (fun j => (j) ≤ bs.length ∧ trim (bs.take (j)) = trim bs) (fun j => (j)) (fun j => [(0, .string (txt (bs.take (j)))), (1, .int .u8 0)]) (fun j => hs) (bs.length) ?_ (SubR.cons' rfl (by (try dsimp only); exact (by rw [List.take_length])) (SubR.cons rfl (SubR.nil _))) sl ?_)))))))
  · exact ⟨Nat.le_refl _, by rw [List.take_length]⟩
  rintro n ⟨hn, hp⟩
  show TT _ _ _ [(0, .string (txt (bs.take n))), (1, .int .u8 0)] (hs)
  have hsz : (txt (bs.take n)).size = n := by show (bs.take n).length = n; rw [List.length_take]; omega
  refine TT.seq (.seq (.region (.pures hT 4 rfl (.split 8 rfl (fun g8 => ?_) (fun g8 => ?_)))))
  ·
    have g8 : 0 < n := by have := of_decide_eq_true g8; omega
    obtain ⟨c, hc⟩ := nth (l := bs) (i := n - 1) (by omega)
    have hsn : bs.take n = bs.take (n - 1) ++ [c] := by have := take_succ hc; rwa [show n - 1 + 1 = n by omega] at this
    refine OT.pures hT 4 rfl (.reg 12 rfl (v := .int .i64 ((n - 1 : Nat) : Int)) (int_eq (by rw [hsz, wrap_i64 (by omega) (by omega)]; omega)) (.index_str hT rfl rfl rfl rfl (by omega) (by show (bs.take n)[((n - 1 : Nat) : Int).toNat]? = some c; rw [Int.toNat_natCast, List.getElem?_take, if_pos (by omega)]; exact hc) rfl ?_))
    refine OT.pures hT 3 rfl (.nil (.seq (.cond rfl (fun c16 => ?_) (fun c16 => ?_))))
    ·
      have c16 : c = 0 := by have := of_decide_eq_true c16; exact UInt8.toNat_inj.1 (by simpa using this)
      refine TT.skip (.seq (.block (.region (.pures hT 4 rfl (.reg 20 rfl (v := .int .i64 ((n - 1 : Nat) : Int)) (int_eq (by rw [hsz, wrap_i64 (by omega) (by omega)]; omega)) (.slice_str 0 (n - 1) hT rfl rfl rfl rfl rfl (.inl ⟨rfl, rfl⟩) (.inr ⟨_, rfl⟩) (by omega) (by rw [hsz]; omega) rfl ?_))))))
      have hcut : (txt (bs.take n)).extract 0 (n - 1) = txt (bs.take (n - 1)) := by rw [txt_cut, List.take_take, show min (n - 1) n = n - 1 by omega]
      refine OT.pures hT 1 rfl (.nil (.blk (.loop (n - 1) ?_ ?_ (SubR.cons' rfl (by (try dsimp only); exact (by rw [hcut])) (SubR.cons rfl (SubR.nil _))) sl)))
      · refine ⟨by omega, ?_⟩
        rw [hsn, c16, trim_snoc0] at hp; exact hp
      · omega
    ·
      have c16 : c ≠ 0 := by intro e; subst e; simp at c16
      refine TT.exit (.seq (.loop (.here (.seq (.seq (.region (.pures hT 2 rfl (.nil (.seq (.ret (.of (rs := [.tmp 4]) [_] hs rfl (.tmp rfl .nil) sl ?_)))))))))))
      dsimp only [one]
      exact ⟨by rw [← hp, hsn, trim_snoc c16], rfl⟩
  ·
    have g8 : ¬ 0 < n := by have := of_decide_eq_false g8; omega
    obtain rfl : n = 0 := by omega
    refine OT.pures hT 8 rfl (.nil (.seq (.cond_false rfl (.exit (.seq (.loop (.here (.seq (.seq (.region (.pures hT 2 rfl (.nil (.seq (.ret (.of (rs := [.tmp 4]) [_] hs rfl (.tmp rfl .nil) sl ?_)))))))))))))))
    dsimp only [one]
    exact ⟨by rw [← hp]; rfl, rfl⟩

set_option maxHeartbeats 1000000 in
set_option maxRecDepth 100000 in
theorem str_TrimRight {bs : List UInt8} {hs : List Chunk} (hl : bs.length ≤ 1073741824) : Fun Tryz.prog 53 [.string (txt bs), .string ⟨#[0]⟩] hs (fun v' hs' => v' = .string (txt (trim bs)) ∧ hs = hs') := by
  refine Fun.enter 37 Tryz.func53 rfl Tryz.ntmps53 rfl ?_
  refine TT.seq (.region (.pures hT 1 rfl (.nil (.seq (.seq (.seq (.region (.pures hT 3 rfl (.split 9 rfl (fun g9 => ?_) (fun g9 => ?_))))))))))
  ·
    have g9 : bs = [] := by have := of_decide_eq_true g9; have h := congrArg (fun x : ByteArray => x.data.toList) this; exact h
    subst g9
    refine OT.pures hT 3 rfl (.nil (.seq (.cond_true rfl (.seq (.region (.pures hT 2 rfl (.nil (.seq (.ret (.of (rs := [.tmp 4]) [_] hs rfl (.tmp rfl .nil) sl ?_))))))))))
    dsimp only [one]
    exact ⟨rfl, rfl⟩
  ·
    refine OT.pures hT 3 rfl (.nil (.seq (.cond_false rfl (.skip (.seq (.seq (.seq (.region (.pures hT 4 rfl (.pures hT 1 rfl (.index_str hT rfl rfl rfl rfl (by omega) (c := 0) rfl rfl (.pures hT 2 rfl (.nil (.seq (.cond_true rfl (.seq (.region (.pures hT 2 rfl (.index_str hT rfl rfl rfl rfl (by omega) (c := 0) rfl rfl (.call Tryz.call76 rfl rfl rfl rfl (str_trimByte hl) ?_))))))))))))))))))))
    rintro v_25 hs_25 ⟨rfl, rfl⟩
    refine OT.pures hT 1 rfl (.nil (.seq (.ret (.of (rs := [.tmp 4]) [_] hs rfl (.tmp rfl .nil) sl ?_))))
    dsimp only [one]
    exact ⟨rfl, rfl⟩

set_option maxHeartbeats 1000000 in
set_option maxRecDepth 100000 in
theorem chg_May {v : Value} {ts : List Im} {hs : List Chunk} (hi : ImsAt hs v ts) : Fun Tryz.prog 28 [v] hs (fun v' hs' => v' = .bool (decide (MayImgs (imgs ts))) ∧ hs = hs') := by
  refine Fun.enter 45 Tryz.func28 rfl Tryz.ntmps28 rfl ?_
  have hr := hi.row
  have hfew := hi.few
  obtain ⟨a0, c0, hv⟩ := hr.len
  subst hv
  refine TT.seq (.region (.pures hT 1 rfl (.nil (.seq (.seq (.seq (.region (.pures hT 3 rfl (.nil (.seq (.block (.loop (ι := Nat) (fun j => (j) ≤ ts.length ∧ MayTo (imgs ts) (j)) (fun j => ts.length - (j)) (fun j => [(0, .slice a0 ts.length c0), (5, .slice a0 ts.length c0), (6, .int .i64 ts.length), (7, .int .i64 ((j) : Nat))]) (fun j => hs) (0) ?_ (SubR.cons rfl (SubR.cons rfl (SubR.cons rfl (SubR.cons rfl (SubR.nil _))))) sl ?_))))))))))))
  · exact ⟨by omega, MayTo.zero _⟩
  rintro i ⟨hin, hp⟩
  show TT _ _ _ [(0, .slice a0 ts.length c0), (5, .slice a0 ts.length c0), (6, .int .i64 ts.length), (7, .int .i64 (i : Nat))] (hs)
  refine TT.seq (.region (.pures hT 1 rfl (.nil (.seq (.seq (.cond rfl (fun c8 => ?_) (fun c8 => ?_)))))))
  ·
    have c8 := of_decide_eq_true c8
    obtain ⟨t, ht⟩ := nth (l := ts) (i := i) (by omega)
    have hit := imgs_at ht
    have hmem := List.mem_of_getElem? ht
    have hmi : t.img ∈ imgs ts := List.mem_of_getElem? hit
    obtain ⟨ab, cb, hvb⟩ := (hi.each t hmem).len
    have hbl := hi.len t hmem
    refine TT.skip (.seq (.seq (.block (.seq (.region (.pures hT 1 rfl (.index hT rfl rfl rfl rfl hr (by omega) ht rfl (fun ad_10 hel_10 => ?_))))))))
    refine OT.load rfl rfl (hel_10.ld_struct hT rfl) rfl (.alloc Tryz.zeroValue36 rfl rfl (fun b_4 => ?_))
    refine OT.pures hT 1 rfl (.store_all hT rfl rfl rfl rfl pl rfl rfl (by show ones (encIm t) = true; unfold encIm; rw [hvb]; rfl) (.inl (Nat.le_refl _)) ?_)
    refine OT.nil (.seq (.seq (.draw ([(b_4, blk [.int .i64 t.no, t.v] 36 (0, 0))] :: hs) mixed (.takes (fuel := 28) hT [0] kr kr rfl (.take (fuel := 27) hT 1 rfl rfl kr kr kr rfl (.load rfl (Ld.one hT rfl hz rfl)) rfl ?_)))))
    refine AT.takes (fuel := 25) hT [2, 3] kr kr rfl (.split 15 rfl (fun g15 => ?_) (fun g15 => ?_))
    ·
      have g15 := of_decide_eq_true g15
      refine AT.takes (fuel := 0) hT [4, 5, 6, 7, 8, 9, 10, 11, 12, 13, 14, 15, 16, 17, 18, 19, 20, 21, 22, 23, 24, 25, 26, 27, 28] kr kr rfl (.done kr sl (.seq (.cond_true rfl (.seq (.region (.pures hT 1 rfl (.nil (.seq (.ret (.of (rs := [.tmp 2]) [_] hs rfl (.tmp rfl .nil) sl ?_))))))))))
      dsimp only [one]
      exact ⟨congrArg Value.bool (decide_eq_false (fun h => by have := (h.2.1 _ hmi).1.1; have : 0 ≤ t.no := this; omega)).symm, rfl⟩
    ·
      have g15 := of_decide_eq_false g15
      refine AT.takes (fuel := 24) hT [4] kr kr rfl (.take (fuel := 23) hT 5 rfl rfl kr kr kr rfl (.load rfl (Ld.one hT rfl hz rfl)) rfl ?_)
      refine AT.takes (fuel := 20) hT [6, 7, 8] kr kr rfl (.split 20 rfl (fun g20 => ?_) (fun g20 => ?_))
      ·
        have g20 := of_decide_eq_true g20
        refine AT.takes (fuel := 0) hT [9, 10, 11, 12, 13, 14, 15, 16, 17, 18, 19, 20, 21, 22, 23, 24, 25, 26, 27, 28] kr kr rfl (.done kr sl (.seq (.cond_true rfl (.seq (.region (.pures hT 1 rfl (.nil (.seq (.ret (.of (rs := [.tmp 2]) [_] hs rfl (.tmp rfl .nil) sl ?_))))))))))
        dsimp only [one]
        exact ⟨congrArg Value.bool (decide_eq_false (fun h => by have := (h.2.1 _ hmi).1.2; have : t.no < 96 := this; omega)).symm, rfl⟩
      ·
        have g20 := of_decide_eq_false g20
        refine AT.takes (fuel := 19) hT [9] kr kr rfl (.take (fuel := 18) hT 10 rfl rfl kr kr kr rfl (.load rfl (Ld.slc hT rfl Has.one (by rw [hvb]; rfl))) rfl (.takes (fuel := 14) hT [11, 12, 13, 14] kr kr rfl (.split 26 rfl (fun g26 => ?_) (fun g26 => ?_))))
        ·
          have g26 : ¬ t.b.length = 256 := by simp at g26; omega
          refine AT.takes (fuel := 0) hT [15, 16, 17, 18, 19, 20, 21, 22, 23, 24, 25, 26, 27, 28] kr kr rfl (.done kr sl (.seq (.cond_true rfl (.seq (.region (.pures hT 1 rfl (.nil (.seq (.ret (.of (rs := [.tmp 2]) [_] hs rfl (.tmp rfl .nil) sl ?_))))))))))
          dsimp only [one]
          exact ⟨congrArg Value.bool (decide_eq_false (fun h => g26 (h.2.1 _ hmi).2)).symm, rfl⟩
        ·
          have g26 : t.b.length = 256 := by simp at g26; omega
          refine AT.takes (fuel := 11) hT [15, 16, 17] kr kr rfl (.split 29 rfl (fun g29 => ?_) (fun g29 => ?_))
          ·
            have g29 := of_decide_eq_true g29
            obtain ⟨u, hu⟩ := nth (l := ts) (i := i - 1) (by omega)
            have hiu := imgs_at hu
            refine AT.takes (fuel := 7) hT [18, 19, 20, 24] kr kr rfl (.take (fuel := 6) hT 25 rfl rfl kr kr kr rfl (.load rfl (Ld.one hT rfl hz rfl)) rfl ?_)
            refine AT.reg 32 rfl (v := .int .i64 ((i - 1 : Nat) : Int)) (int_eq (by rw [wrap_i64 (by omega) (by omega)]; omega)) (.index (fuel := 5) hT 21 rfl kr kr kr rfl rfl rfl rfl hr.there (by omega) (by rw [Int.toNat_natCast]; exact hu) rfl (fun ad_33 hel_33 => ?_))
            obtain ⟨eb_33, eo_33, rfl, hfld_33⟩ := hel_33.at (P := Tryz.prog)
            refine AT.takes (fuel := 4) hT [22] kr kr rfl (.take (fuel := 3) hT 23 rfl rfl kr kr kr rfl (.load rfl (hfld_33 hT rfl rfl)) rfl (.takes (fuel := 0) hT [26, 27, 28] kr kr rfl (.done kr sl (.seq (.cond rfl (fun c40 => ?_) (fun c40 => ?_))))))
            ·
              have c40 := of_decide_eq_true c40
              refine TT.seq (.region (.pures hT 1 rfl (.nil (.seq (.ret (.of (rs := [.tmp 2]) [_] hs rfl (.tmp rfl .nil) sl ?_))))))
              dsimp only [one]
              exact ⟨congrArg Value.bool (decide_eq_false (fun h => by have := h.adj hiu (by rw [show i - 1 + 1 = i by omega]; exact hit); have : u.no < t.no := this; omega)).symm, rfl⟩
            ·
              have c40 := of_decide_eq_false c40
              refine TT.skip (.blk (.seq (.region (.pures hT 2 rfl (.nil (.loop (i + 1) ?_ ?_ (SubR.cons rfl (SubR.cons rfl (SubR.cons rfl (SubR.cons' rfl (by (try dsimp only); exact (int_eq (by rw [wrap_i64 (by omega) (by omega)]; omega))) (SubR.nil _))))) sl))))))
              · exact ⟨by omega, hp.step hit ⟨by show 0 ≤ t.no; omega, by show t.no < 96; omega⟩ g26 fun j y hj hy => by
                  have : j = i - 1 := by omega
                  subst this
                  rw [hiu] at hy
                  obtain rfl := Option.some.inj hy
                  show u.no < t.no; omega⟩
              · omega
          ·
            have g29 := of_decide_eq_false g29
            refine AT.takes (fuel := 0) hT [18, 19, 20, 21, 22, 23, 24, 25, 26, 27, 28] kr kr rfl (.done kr sl (.seq (.cond_false rfl (.skip (.blk (.seq (.region (.pures hT 2 rfl (.nil (.loop (i + 1) ?_ ?_ (SubR.cons rfl (SubR.cons rfl (SubR.cons rfl (SubR.cons' rfl (by (try dsimp only); exact (int_eq (by rw [wrap_i64 (by omega) (by omega)]; omega))) (SubR.nil _))))) sl))))))))))
            · exact ⟨by omega, hp.step hit ⟨by show 0 ≤ t.no; omega, by show t.no < 96; omega⟩ g26 fun j y hj hy => by omega⟩
            · omega
  ·
    have c8 := of_decide_eq_false c8
    obtain rfl : i = ts.length := by omega
    refine TT.exit (.seq (.loop (.here (.seq (.seq (.region (.pures hT 4 rfl (.nil (.seq (.ret (.of (rs := [.tmp 2]) [_] hs rfl (.tmp rfl .nil) sl ?_)))))))))))
    dsimp only [one]
    refine ⟨congrArg Value.bool (decide_eq_decide.2 ⟨fun h => MayTo.all (by rw [imgs_length]; exact hp) (by rw [imgs_length]; omega), fun h => ?_⟩), rfl⟩
    have := h.pos
    rw [imgs_length] at this; omega

set_option maxHeartbeats 2000000 in
set_option maxRecDepth 100000 in
theorem chg_Encode {v : Value} {ts : List Im} {hs : List Chunk} (hi : ImsAt hs v ts) (hm : MayImgs (imgs ts)) : Fun Tryz.prog 29 [v] hs (fun v' hs' => ∃ H', hs' = H' :: hs ∧ Own Go.Sx.encB 1 5 v' (encImgs (imgs ts)) H' ∧ oneC v' = true) := by
  refine Fun.enter 29 Tryz.func29 rfl Tryz.ntmps29 rfl ?_
  have hr := hi.row
  have h96 := hm.few
  rw [imgs_length] at h96
  obtain ⟨a0, c0, hv⟩ := hr.len
  subst hv
  refine TT.seq (.region (.pures hT 1 rfl (.nil (.seq (.seq (.seq (.region (.pures hT 1 rfl (.call Tryz.call28 rfl rfl rfl rfl (chg_May hi) ?_)))))))))
  rintro v_7 hs_7 ⟨rfl, rfl⟩
  rw [decide_eq_true hm]
  refine OT.pures hT 1 rfl (.nil (.seq (.cond_false rfl (.skip (.seq (.seq (.region (.pures hT 2 rfl (.call Tryz.call51 rfl rfl rfl rfl (Fun.chunk0 (num_Put (n := (ts.length : Int)) Own.nil (by omega) (by omega) (by simp))) ?_)))))))))
  rintro v_11 hs_11 ⟨H1, rfl, ho1⟩
  refine OT.pures hT 1 rfl (.nil (.seq (.seq (.seq (.region (.pures hT 3 rfl (.nil (.seq (.block (.loop (ι := Nat × Value × Chunk) (fun j => (j.1) ≤ ts.length ∧ Own Go.Sx.encB 1 5 (j.2.1) (put (ts.length : Int) ++ ((imgs ts).take (j.1)).flatMap encOne) (j.2.2)) (fun j => ts.length - (j.1)) (fun j => [(3, (j.2.1)), (12, .slice a0 ts.length c0), (13, .int .i64 ts.length), (14, .int .i64 ((j.1) : Nat))]) (fun j => (j.2.2) :: hs) (0, v_11, H1) ?_ (SubR.cons rfl (SubR.cons rfl (SubR.cons rfl (SubR.cons rfl (SubR.nil _))))) sl ?_))))))))))
  · dsimp only
    exact ⟨by omega, by simpa using ho1⟩
  rintro ⟨i, w, K⟩ hI
  dsimp only at hI
  obtain ⟨hin, hO⟩ := hI
  show TT _ _ _ [(3, w), (12, .slice a0 ts.length c0), (13, .int .i64 ts.length), (14, .int .i64 (i : Nat))] (K :: hs)
  refine TT.seq (.region (.pures hT 1 rfl (.nil (.seq (.seq (.cond rfl (fun c15 => ?_) (fun c15 => ?_)))))))
  ·
    have c15 := of_decide_eq_true c15
    obtain ⟨t, ht⟩ := nth (l := ts) (i := i) (by omega)
    have hit := imgs_at ht
    have hmem := List.mem_of_getElem? ht
    have hmi : t.img ∈ imgs ts := List.mem_of_getElem? hit
    obtain ⟨ab, cb, hvb⟩ := (hi.each t hmem).len
    obtain ⟨⟨hno0, hno1⟩, hbl⟩ := hm.2.1 _ hmi
    have hno0 : 0 ≤ t.no := hno0
    have hno1 : t.no < 96 := hno1
    have hbl : t.b.length = 256 := hbl
    have htr := trim_length t.b
    have hlen : (put (ts.length : Int) ++ ((imgs ts).take i).flatMap encOne).length ≤ 30000 := by
      have h1 := put_len (n := (ts.length : Int)) (by omega) (by omega)
      have h2 := encAll_length (l := (imgs ts).take i) (fun x hx => hm.2.1 x (List.mem_of_mem_take hx))
      rw [List.length_take, imgs_length] at h2
      rw [List.length_append]; omega
    have hpl := put_len (n := t.no) (by omega) (by omega)
    refine TT.skip (.seq (.seq (.block (.seq (.region (.index hT rfl rfl rfl rfl hr.there (by omega) ht rfl (fun ad_16 hel_16 => ?_)))))))
    refine OT.load rfl rfl (hel_16.ld_struct hT rfl) rfl (.alloc Tryz.zeroValue36 rfl rfl (fun b_5 => ?_))
    refine OT.store_all hT rfl rfl rfl rfl pl rfl rfl (by show ones (encIm t) = true; unfold encIm; rw [hvb]; rfl) (.inl (Nat.le_refl _)) ?_
    refine OT.nil (.seq (.draw ([(b_5, blk [.int .i64 t.no, t.v] 36 (0, 0))] :: hs) mixed (.takes (fuel := 7) hT [0, 1, 4] kr kr rfl (.take (fuel := 6) hT 2 rfl rfl kr kr kr rfl (.load rfl (Ld.one hT rfl hz rfl)) rfl ?_))))
    refine AT.take (fuel := 5) hT 5 rfl rfl kr kr kr rfl (.load rfl (Ld.slc hT rfl Has.one rfl)) rfl (.all (fuel := 4) [3, 6] kr (by decide) sl ?_)
    intro i hi
    simp only [List.mem_cons, List.not_mem_nil, or_false] at hi
    rcases hi with rfl | rfl
    ·
      refine ⟨_, rfl, ?_⟩
      refine OT.call Tryz.call51 rfl rfl rfl rfl (Fun.pull pl (num_Put (n := t.no) hO (by omega) (by omega) (by omega))) ?_
      rintro v_21 hs_21 ⟨H7, rfl, ho7⟩
      refine OT.nil (.any (.op (fuel := 3) 6 kr rfl sl (.conv_bs (fun _ => rfl) hT rfl rfl rfl rfl rfl (hi.each t hmem).there.there rfl (.nil (.any (.op (fuel := 2) 7 kr rfl sl (.call Tryz.call53 rfl rfl rfl rfl (str_TrimRight (by omega)) ?_)))))))
      rintro v_25 hs_25 ⟨rfl, rfl⟩
      refine OT.nil (.any (.op (fuel := 1) 8 kr rfl sl (.call Tryz.call52 rfl rfl rfl rfl (Fun.pull pl (num_PutText ho7 (by show (trim t.b).length ≤ _; omega) (by rw [List.length_append]; omega))) ?_)))
      rintro v_26 hs_26 ⟨H8, rfl, ho8⟩
      refine OT.nil (.any (.takes (fuel := 0) hT [9] kr kr rfl (.done kr sl (.blk (.seq (.region (.pures hT 2 rfl (.nil (.loop (i + 1, v_26, H8) ?_ ?_ (SubR.cons rfl (SubR.cons rfl (SubR.cons rfl (SubR.cons' rfl (by (try dsimp only); exact (int_eq (by rw [wrap_i64 (by omega) (by omega)]; omega))) (SubR.nil _))))) sl)))))))))
      · dsimp only
        refine ⟨by omega, ?_⟩
        rw [take_succ hit, List.flatMap_append, List.flatMap_cons, List.flatMap_nil, List.append_nil]
        have h := ho8
        rw [List.append_assoc, List.append_assoc] at h
        exact h
      · dsimp only
        omega
    ·
      refine ⟨_, rfl, ?_⟩
      refine OT.conv_bs (fun _ => rfl) hT rfl rfl rfl rfl rfl (hi.each t hmem).there.there rfl (.nil (.any (.op (fuel := 3) 3 kr rfl sl (.call Tryz.call51 rfl rfl rfl rfl (Fun.pull pl (num_Put (n := t.no) hO (by omega) (by omega) (by omega))) ?_))))
      rintro v_21 hs_21 ⟨H7, rfl, ho7⟩
      refine OT.nil (.any (.op (fuel := 2) 7 kr rfl sl (.call Tryz.call53 rfl rfl rfl rfl (str_TrimRight (by omega)) ?_)))
      rintro v_25 hs_25 ⟨rfl, rfl⟩
      refine OT.nil (.any (.op (fuel := 1) 8 kr rfl sl (.call Tryz.call52 rfl rfl rfl rfl (Fun.pull pl (num_PutText ho7 (by show (trim t.b).length ≤ _; omega) (by rw [List.length_append]; omega))) ?_)))
      rintro v_26 hs_26 ⟨H8, rfl, ho8⟩
      refine OT.nil (.any (.takes (fuel := 0) hT [9] kr kr rfl (.done kr sl (.blk (.seq (.region (.pures hT 2 rfl (.nil (.loop (i + 1, v_26, H8) ?_ ?_ (SubR.cons rfl (SubR.cons rfl (SubR.cons rfl (SubR.cons' rfl (by (try dsimp only); exact (int_eq (by rw [wrap_i64 (by omega) (by omega)]; omega))) (SubR.nil _))))) sl)))))))))
      · dsimp only
        refine ⟨by omega, ?_⟩
        rw [take_succ hit, List.flatMap_append, List.flatMap_cons, List.flatMap_nil, List.append_nil]
        have h := ho8
        rw [List.append_assoc, List.append_assoc] at h
        exact h
      · dsimp only
        omega
  ·
    have c15 := of_decide_eq_false c15
    obtain rfl : i = ts.length := by omega
    refine TT.exit (.seq (.loop (.here (.seq (.seq (.region (.pures hT 2 rfl (.nil (.seq (.ret (.of (rs := [.tmp 2]) [_] (K :: hs) rfl (.tmp rfl .nil) sl ?_)))))))))))
    dsimp only [one]
    refine ⟨_, rfl, ?_, hO.oneC⟩
    have h := hO
    rw [show (imgs ts).take ts.length = imgs ts by rw [← imgs_length, List.take_length]] at h
    unfold encImgs; rw [imgs_length]; exact h

set_option maxHeartbeats 2000000 in
set_option maxRecDepth 100000 in
theorem chg_one {v : Value} {x : Img} {rest : List UInt8} {hs : List Chunk} (hr : Row Go.Sx.encB 1 hs v (encOne x ++ rest)) (hx : mayPage x.1 ∧ x.2.length = 256) (hl : rest.length ≤ 1000000) : Fun Tryz.prog 71 [v] hs (fun v' hs' => ∃ vb H', v' = .tuple ⟨[.agg ⟨[.int .i64 x.1, vb]⟩, .int .i64 ((encOne x).length : Nat)]⟩ ∧ hs' = H' :: hs ∧ Own Go.Sx.encB 1 5 vb x.2 H') := by
  refine Fun.enter 46 Tryz.func71 rfl Tryz.ntmps71 rfl ?_
  obtain ⟨a0, c0, hv⟩ := hr.len
  subst hv
  have h1 := encOne_length hx
  have hla : (encOne x ++ rest).length = (encOne x).length + rest.length := List.length_append
  have hx0 : 0 ≤ x.1 ∧ x.1 < 96 := hx.1
  have hpl := put_len (n := x.1) (by omega) (by omega)
  have htr := trim_length x.2
  have htxl : ((putText (txt (trim x.2))).length : Int) = (encOne x).length - (put x.1).length := by unfold encOne; rw [List.length_append]; omega
  have hdl : ((encOne x ++ rest).drop (put x.1).length).length = (encOne x ++ rest).length - (put x.1).length := List.length_drop
  refine TT.seq (.region (.alloc Tryz.zeroValue36 rfl rfl (fun b_2 => ?_)))
  refine OT.pures hT 1 rfl (.nil (.seq (.seq (.region (.pures hT 1 rfl (.call Tryz.call67 rfl rfl rfl rfl (num_Get hr.there (by omega)) ?_))))))
  rintro v_12 hs_12 ⟨rfl, rfl⟩
  rw [get_one hx.1]
  dsimp only
  refine OT.pures hT 7 rfl (.nil (.seq (.seq (.seq (.region (.pures hT 2 rfl (.nil (.seq (.cond rfl (fun c17 => ?_) (fun c17 => ?_))))))))))
  ·
    exact absurd c17 (by decide)
  ·
    refine TT.skip (.seq (.seq (.region (.pures hT 2 rfl (.slice (put x.1).length (encOne x ++ rest).length hT rfl rfl rfl rfl rfl hr.there (.inr ⟨_, rfl⟩) (.inl ⟨rfl, rfl⟩) (by omega) (by omega) rfl (fun v_22 hv_22 => ?_))))))
    refine OT.call Tryz.call88 rfl rfl rfl rfl (num_GetText hv_22 (by rw [List.take_length, hdl]; omega)) ?_
    rintro v_23 hs_23 ⟨rfl, rfl⟩
    rw [List.take_length, text_one hx.2]
    dsimp only
    refine OT.pures hT 7 rfl (.nil (.seq (.seq (.seq (.region (.pures hT 3 rfl (.split 29 rfl (fun g29 => ?_) (fun g29 => ?_))))))))
    ·
      exact absurd g29 (by decide)
    ·
      refine OT.pures hT 4 rfl (.nil (.seq (.cond rfl (fun c33 => ?_) (fun c33 => ?_))))
      ·
        exact absurd (of_decide_eq_true c33) (by show ¬ (((trim x.2).length : Nat) : Int) > 256; omega)
      ·
        refine TT.skip (.seq (.seq (.region (.pures hT 1 rfl ?_))))
        refine OT.make (enc := Go.Sx.encB) (z0 := (0 : UInt8)) (n := 256) el33 Tryz.zeroValue5 rfl rfl rfl rfl rfl (by omega) rfl (fun v_36 H_36 ho_36 => ?_)
        obtain ⟨eb, eo, ec, _, _, hva, _⟩ := ho_36.over (by simp)
        rw [List.length_replicate] at hva
        subst hva
        refine OT.build (cs := [.int .i64 x.1, .slice (some ⟨eb, eo, none⟩) 256 ec]) hT rfl Tryz.zeroValue36 rfl rfl rfl rfl (.alloc Tryz.zeroValue36 rfl rfl (fun b_9 => ?_))
        refine OT.store_all hT rfl rfl rfl rfl pl rfl rfl rfl (.inl (Nat.le_refl _)) ?_
        refine OT.nil (.seq (.seq (.region (.pures hT 1 rfl (.load rfl rfl (Ld.slc hT rfl hz rfl) rfl ?_)))))
        refine OT.pures hT 1 rfl (.copy_str (fun _ => rfl) 0 hT rfl rfl rfl rfl pl ho_36 (by show (trim x.2).length ≤ 256; omega) (by show 0 + (trim x.2).length ≤ (List.replicate 256 (0 : UInt8)).length; rw [List.length_replicate]; omega) (by simp) rfl (fun H_41 ho_41 => ?_))
        refine OT.nil (.seq (.seq (.region (.load rfl rfl (Ld.struct_all hT rfl hz rfl) rfl ?_))))
        refine OT.pures hT 3 rfl (.store_all hT rfl rfl rfl rfl pl rfl rfl rfl (.inl (Nat.le_refl _)) ?_)
        refine OT.pures hT 1 rfl (.nil (.seq (.ret (.of (rs := [.cell 2 36, .tmp 3]) [_, _] (H_41 :: hs) rfl (.cell rfl (Ld.struct_all hT rfl hz rfl) (.tmp rfl .nil)) sl ?_))))
        dsimp only [one]
        refine ⟨.slice (some ⟨eb, eo, none⟩) 256 ec, H_41, ?_, rfl, ?_⟩
        · rw [wrap_i64 (by omega) (by omega), htxl, show ((put x.1).length : Int) + ((encOne x).length - (put x.1).length) = (encOne x).length by omega]
          rfl
        · have e : over (List.replicate 256 (0 : UInt8)) 0 (txt (trim x.2)).data.toList = x.2 := by
            show over (List.replicate 256 (0 : UInt8)) 0 (trim x.2) = x.2
            have := pageOf_trim hx.2
            unfold over
            rw [List.take_zero, List.nil_append, Nat.zero_add, List.drop_replicate]
            exact this
          rw [← e]; exact ho_41

set_option maxHeartbeats 4000000 in
set_option maxRecDepth 100000 in
theorem chg_Decode {v : Value} {l : List Img} {hs : List Chunk} (hr : Row Go.Sx.encB 1 hs v (encImgs l)) (hm : MayImgs l) : Fun Tryz.prog 44 [v] hs (fun v' hs' => ∃ w ts H', v' = .tuple ⟨[w, .int .i64 0]⟩ ∧ hs' = H' :: hs ∧ OwnIms 36 5 w ts H' ∧ imgs ts = l) := by
  refine Fun.enter 52 Tryz.func44 rfl Tryz.ntmps44 rfl ?_
  obtain ⟨a0, c0, hv⟩ := hr.len
  subst hv
  have h96 := hm.few
  have hpos := hm.pos
  obtain ⟨el1, el2⟩ := encImgs_length hm
  have hpl := put_len (n := (l.length : Int)) (by omega) (by omega)
  have hg0 : get (encImgs l) = ((l.length : Int), ((put (l.length : Int)).length : Int), 0) := get_put (by omega) (by omega) _
  refine TT.seq (.region (.pures hT 2 rfl (.nil (.seq (.seq (.region (.pures hT 1 rfl (.call Tryz.call67 rfl rfl rfl rfl (num_Get hr (by omega)) ?_))))))))
  rintro v_12 hs_12 ⟨rfl, rfl⟩
  rw [hg0]
  dsimp only
  refine OT.pures hT 7 rfl (.nil (.seq (.seq (.seq (.region (.pures hT 3 rfl (.split 18 rfl (fun g18 => ?_) (fun g18 => ?_))))))))
  ·
    exact absurd g18 (by decide)
  ·
    refine OT.pures hT 4 rfl (.split 22 rfl (fun g22 => ?_) (fun g22 => ?_))
    ·
      exact absurd (of_decide_eq_true g22) (by omega)
    ·
      refine OT.pures hT 3 rfl (.nil (.seq (.cond rfl (fun c25 => ?_) (fun c25 => ?_))))
      ·
        exact absurd (of_decide_eq_true c25) (by omega)
      ·
        refine TT.skip (.seq (.seq (.region (.pures hT 1 rfl (.nil (.seq (.seq (.seq (.region (.pures hT 2 rfl (.nil (.seq (.block (.chunk0 (.chunk0 (.loop (ι := Nat × (List It) × Value × Chunk) (fun j => (j.1) ≤ l.length ∧ imgs ((j.2.1).map (·.1)) = l.take (j.1) ∧ (∀ u ∈ (j.2.1), Own Go.Sx.encB 1 5 u.1.v u.1.b u.2) ∧ Own encIm 2 36 (j.2.2.1) ((j.2.1).map (·.1)) (j.2.2.2)) (fun j => l.length - (j.1)) (fun j => [(0, .slice a0 (encImgs l).length c0), (5, .int .i64 (((put (l.length : Int)).length + ((l.take (j.1)).flatMap encOne).length) : Nat)), (7, (j.2.2.1)), (26, .int .i64 (l.length : Nat)), (27, .int .i64 ((j.1) : Nat))]) (fun j => (j.2.2.2) :: itChunk (j.2.1) :: hs) (0, [], .slice none 0 0, []) ?_ (SubR.cons rfl (SubR.cons' rfl (by (try dsimp only); exact (int_eq (by simp))) (SubR.cons rfl (SubR.cons rfl (SubR.cons rfl (SubR.nil _)))))) (by rw [show itChunk [] = [] from rfl]; exact sl) ?_))))))))))))))))
        · dsimp only
          exact ⟨by omega, rfl, by simp, Own.nil⟩
        rintro ⟨i, us, w, K⟩ hI
        dsimp only at hI
        obtain ⟨hin, hus, huo, hO⟩ := hI
        show TT _ _ _ [(0, .slice a0 (encImgs l).length c0), (5, .int .i64 (((put (l.length : Int)).length + ((l.take i).flatMap encOne).length) : Nat)), (7, w), (26, .int .i64 (l.length : Nat)), (27, .int .i64 (i : Nat))] (K :: itChunk us :: hs)
        have hul : us.length = i := by have := congrArg List.length hus; rw [imgs_length, List.length_map, List.length_take] at this; omega
        refine TT.seq (.region (.pures hT 1 rfl (.nil (.seq (.seq (.cond rfl (fun c28 => ?_) (fun c28 => ?_)))))))
        ·
          have c28 := of_decide_eq_true c28
          obtain ⟨x, hx⟩ := nth (l := l) (i := i) (by omega)
          have hxo := hm.2.1 x (List.mem_of_getElem? hx)
          obtain ⟨ol1, ol2⟩ := encOne_length hxo
          have hsp : encImgs l = (put (l.length : Int) ++ ((l.take i).flatMap encOne)) ++ (encOne x ++ (l.drop (i + 1)).flatMap encOne) := by
            unfold encImgs
            rw [List.append_assoc, ← List.flatMap_cons, ← List.flatMap_append]
            congr 2
            rw [← drop_cons hx, List.take_append_drop]
          have hat : (put (l.length : Int) ++ ((l.take i).flatMap encOne)).length = ((put (l.length : Int)).length + ((l.take i).flatMap encOne).length) := List.length_append
          have hal : (encImgs l).length = ((put (l.length : Int)).length + ((l.take i).flatMap encOne).length) + ((encOne x).length + ((l.drop (i + 1)).flatMap encOne).length) := by rw [hsp, List.length_append, hat, List.length_append]
          refine TT.skip (.seq (.seq (.block (.seq (.region (.pures hT 2 rfl (.slice ((put (l.length : Int)).length + ((l.take i).flatMap encOne).length) (encImgs l).length hT rfl rfl rfl rfl rfl hr.there.there (.inr ⟨_, rfl⟩) (.inl ⟨rfl, rfl⟩) (by omega) (by omega) rfl (fun v_32 hv_32 => ?_))))))))
          refine OT.call Tryz.call71 rfl rfl rfl rfl (chg_one (x := x) (rest := (l.drop (i + 1)).flatMap encOne) (by rw [List.take_length, hsp, drop_of hat] at hv_32; exact hv_32) hxo (by omega)) ?_
          rintro v_33 hs_33 ⟨vb, HB, rfl, rfl, hoB⟩
          obtain ⟨ab, cb, hvb⟩ := (hoB.row (hs := hs)).len
          subst hvb
          refine OT.pures hT 3 rfl (.alloc Tryz.zeroValue36 rfl rfl (fun b_8 => ?_))
          refine OT.store_all hT rfl rfl rfl rfl pl rfl rfl rfl (.inl (Nat.le_refl _)) ?_
          refine OT.pures hT 1 rfl (.nil (.seq (.seq (.seq (.region (.pures hT 2 rfl (.nil (.seq (.cond rfl (fun c37 => ?_) (fun c37 => ?_))))))))))
          ·
            exact absurd (of_decide_eq_true c37) (by omega)
          ·
            refine TT.skip (.seq (.seq (.region (.pures hT 1 rfl (.load rfl rfl (Ld.struct_all hT rfl hz rfl) rfl ?_)))))
            refine OT.buildSlice (enc := encIm) (xs := [⟨x.1, .slice ab x.2.length cb, x.2⟩]) (xos := [.tmp 39]) el37 rfl rfl rfl rfl rfl (by simp [Value.cells]) (fun _ _ => rfl) rfl (by decide) rfl (fun v_40 H_40 ho_40 => ?_)
            refine OT.append hT el37 rfl rfl rfl rfl pl hO ro rfl (by simp only [List.length_cons, List.length_nil, List.length_map]; omega) rfl (fun v_41 H_41 ho_41 => ?_)
            refine OT.pures hT 1 rfl (.nil (.seq (.region (.pures hT 4 rfl (.nil (.blk (.seq (.region (.pures hT 2 rfl (.nil (.weaken (SubR.refl _) (hs' := H_41 :: itChunk us :: HB :: hs) sl (.loop (i + 1, us ++ [((⟨x.1, .slice ab x.2.length cb, x.2⟩ : Im), HB)], v_41, H_41) ?_ ?_ (SubR.cons rfl (SubR.cons' rfl (by (try dsimp only); exact (int_eq (by rw [wrap_i64 (by omega) (by omega), take_succ hx, List.flatMap_append, List.length_append, List.flatMap_cons, List.flatMap_nil, List.append_nil]; omega))) (SubR.cons rfl (SubR.cons rfl (SubR.cons' rfl (by (try dsimp only); exact (int_eq (by rw [wrap_i64 (by omega) (by omega)]; omega))) (SubR.nil _)))))) (by rw [itChunk_snoc]; exact sl)))))))))))))
            · dsimp only
              refine ⟨by omega, ?_, ?_, by rw [List.map_append]; exact ho_41⟩
              · rw [List.map_append, imgs_append, hus, take_succ hx]; rfl
              · intro u hu
                rcases List.mem_append.1 hu with hu | hu
                · exact huo u hu
                · rw [List.mem_singleton] at hu; subst hu; exact hoB
            · dsimp only
              omega
        ·
          have c28 := of_decide_eq_false c28
          obtain rfl : i = l.length := by omega
          rw [List.take_length] at hus
          refine TT.exit (.seq (.loop (.here (.seq (.seq (.seq (.region (.pures hT 1 rfl ?_))))))))
          have hIm : OwnIms 36 5 w (us.map (·.1)) (K ++ itChunk us) := ⟨us, K, rfl, huo, hO, rfl⟩
          have hAt : ImsAt ((K ++ itChunk us) :: hs) w (us.map (·.1)) := hIm.at (by rw [List.length_map]; omega) (fun t ht => by
            have h : t.img ∈ imgs (us.map (·.1)) := List.mem_map.2 ⟨t, ht, rfl⟩
            rw [hus] at h
            have := (hm.2.1 _ h).2
            have : t.b.length = 256 := this
            omega)
          refine OT.weaken (SubR.refl _) (hs' := (K ++ itChunk us) :: hs) (Sel.join (Sel.refl _)) (.call Tryz.call29 rfl rfl rfl rfl (chg_Encode hAt (by rw [hus]; exact hm)) ?_)
          rintro v_47 hs_47 ⟨HE, rfl, hoE, hoe⟩
          rw [hus] at hoE
          refine OT.pures hT 1 rfl (.call Tryz.call69 rfl rfl rfl rfl (by_Equal hoE.row hr.there.there) ?_)
          rintro v_49 hs_49 ⟨rfl, rfl⟩
          rw [decide_eq_true rfl]
          refine OT.pures hT 1 rfl (.nil (.seq (.cond rfl (fun c50 => ?_) (fun c50 => ?_))))
          ·
            exact absurd c50 (by decide)
          ·
            refine TT.skip (.seq (.seq (.region (.pures hT 3 rfl (.nil (.seq (.ret (.of (rs := [.tmp 2, .tmp 3]) [_, _] ((K ++ itChunk us) :: hs) rfl (.tmp rfl (.tmp rfl .nil)) sl ?_))))))))
            dsimp only [one]
            exact ⟨_, _, _, rfl, rfl, hIm, hus⟩

end Go.Proofs.YtoalhcodigpgkaaGreatDoor.Sx
end
