/- StateKeeps, walked. -/
import Derived.Test.YtdblhmpcilihnaaGreatL3
namespace Go.Proofs.YtdblhmpcilihnaaGreat
open Go.RowKit E
set_option maxRecDepth 100000
set_option linter.unusedVariables false
set_option linter.unusedSimpArgs false
abbrev frK (sts : List State) (rs : List Rec) (i : Nat) (incs lives : List Int) : Fr := [(5, .hptr 0 11 0 0), (6, slStt sts), (7, slRec rs), (9, .hsl 1 1 0 incs.length incs.length false), (10, .hsl 2 1 0 lives.length lives.length false), (11, I i)]
abbrev frL (sts : List State) (rs : List Rec) (i : Nat) (incs lives : List Int) (p k : Nat) : Fr := [(5, .hptr 0 11 0 0), (6, slStt sts), (7, slRec rs), (9, .hsl 1 1 0 incs.length incs.length false), (10, .hsl 2 1 0 lives.length lives.length false), (11, I i), (12, .hptr 3 5 0 0), (13, .hptr 4 3 0 0), (14, .hsl 5 1 0 p p false), (15, I k)]
abbrev esK (c : Config) (incs lives : List Int) : List (Nat × Option E.Blk) := [(2, some ⟨1, rowsL fvI lives, none⟩), (1, some ⟨1, rowsL fvI incs, none⟩), (0, some ⟨11, [c.fv.map FV.up], none⟩)]
structure KeepI (sts : List State) (i : Nat) (incs lives : List Int) : Prop where
  le : i ≤ sts.length
  ni : incs.Nodup
  nl : lives.Nodup
  bi : ∀ x ∈ incs, x < (sts.getD (i - 1) default).next
  bl : ∀ x ∈ lives, x < (sts.getD (i - 1) default).lives
  li : incs.length ≤ i
  ll : lives.length ≤ i
abbrev rowR (r : Res) : List AV := [I r.cpu, I r.mem, I r.disk]
theorem rowsL_app2 {L M : List Int} : rowsL fvI L ++ (List.range M.length).map (fun q => List.map FV.up [FV.val (.int .i64 (M.getD q 0))]) = rowsL fvI (L ++ M) := by
  unfold rowsL
  rw [List.map_append]
  congr 1
  apply List.ext_getElem
  · simp
  · intro q h1 h2
    simp at h1 h2 ⊢
    rw [List.getElem?_eq_getElem h2]
    rfl
theorem nodup_snoc {l : List Int} {x : Int} (h : l.Nodup) (hx : x ∉ l) : (l ++ [x]).Nodup := List.nodup_append.2 ⟨h, by simp, fun a ha b hb => by rw [List.mem_singleton.1 hb]; exact fun e => hx (e ▸ ha)⟩
set_option maxHeartbeats 8000000 in
theorem keeps_p (n : Int) (l : List Rec) (hkd : ∀ i, 0 ≤ (l.getD i default).kind ∧ (l.getD i default).kind ≤ 255) : Pure Tryz.prog 5 [I n, slRec l] (B true) := by
  have hc := cfg_ok n
  have hTp := taleN_p (cfgF n) l hc hkd
  obtain ⟨hT, _⟩ := taleN_ok (cfgF n) l (min l.length 60) (by omega)
  generalize (taleN (cfgF n) l (min l.length 60)).1 = sts at hTp hT
  generalize (taleN (cfgF n) l (min l.length 60)).2 = rs at hTp hT
  have hcap : (cfgF n).cap = ⟨10, 10, 10⟩ := rfl
  have hcf := cfg_p n
  generalize cfgF n = c at *
  have hlen := hT.len
  have hfew := hT.few
  refine Pure.ev Tryz.f5 mx Tryz.func5 (by kernel_rfl) rfl rfl rfl ?_ <;> (refine goS ?_ <;> repeat (intro _ <;> refine goS ?_))
  (first | refine Pure.call (hcf) ?_ | refine HCall.pure (hcf) ?_) <;> (refine goS ?_ <;> repeat (intro _ <;> refine goS ?_))
  (first | refine Pure.call (hTp) ?_ | refine HCall.pure (hTp) ?_) <;> (refine goS ?_ <;> repeat (intro _ <;> refine goS ?_))
  refine loop_st (S := Nat × List Int × List Int) (fun z => frK sts rs z.1 z.2.1 z.2.2) (fun z => ⟨3, esK c z.2.1 z.2.2⟩) (fun z => KeepI sts z.1 z.2.1 z.2.2) (fun z => sts.length - z.1) (0, [], [])
    ((Wk.phantom 9 1 rfl).trans ((Wk.phantom 10 1 rfl).trans (Wk.cut rfl ⟨⟨rfl, rfl⟩, ⟨rfl, rfl⟩, ⟨rfl, rfl⟩, ⟨rfl, rfl⟩, ⟨rfl, rfl⟩, ⟨rfl, rfl⟩, trivial⟩ ⟨⟨rfl, rfl, bd_rows rowsL_free, nofun⟩, ⟨rfl, rfl, bd_rows rowsL_free, nofun⟩, ⟨rfl, rfl, row1 rfl, nofun⟩, trivial⟩)))
    ⟨Nat.zero_le _, List.nodup_nil, List.nodup_nil, fun x hx => (by cases hx), fun x hx => (by cases hx), Nat.le_refl _, Nat.le_refl _⟩ ?_
  clear hcf hTp
  rintro ⟨i, incs, lives⟩ hI
  dsimp only at hI
  by_cases hi : i < sts.length
  case neg =>
    (refine goS ?_ <;> repeat (intro _ <;> refine goS ?_))
    repeat' ((refine bnS (fun hr h => ?_) (fun hr h => ?_) <;> first | (exfalso; omega) | ((refine goS ?_ <;> repeat (intro _ <;> refine goS ?_)))))
    have h1 := twice_p incs (by have := hI.li; have := hI.le; omega)
    have h2 := twice_p lives (by have := hI.ll; have := hI.le; omega)
    rw [twice_n hI.ni] at h1
    rw [twice_n hI.nl] at h2
    (first | refine ACalls.deep (h1) rfl (.cons (dth_rows (fv := fvI) (L := incs) rfl rfl) .nil) ?_ | refine HCall.deep (h1) rfl (.cons (dth_rows (fv := fvI) (L := incs) rfl rfl) .nil) ?_) <;> (refine goS ?_ <;> repeat (intro _ <;> refine goS ?_))
    (first | refine ACalls.deep (h2) rfl (.cons (dth_rows (fv := fvI) (L := lives) rfl rfl) .nil) ?_ | refine HCall.deep (h2) rfl (.cons (dth_rows (fv := fvI) (L := lives) rfl rfl) .nil) ?_) <;> (refine goS ?_ <;> repeat (intro _ <;> refine goS ?_))
    (first | refine Pure.call (awake20_p) ?_ | refine HCall.pure (awake20_p) ?_) <;> (refine goS ?_ <;> repeat (intro _ <;> refine goS ?_))
    exact ret_now _ rfl
  have hG := tale_good hc hT i (by omega)
  have hS := stCheck_p c (sts.getD i default) (good_few hG.1) hG.2
  rw [hG.1] at hS
  have hw1 : Go.IntKind.i64.wrap ((i : Int) + 1) = ((i + 1 : Nat) : Int) := wrapS (show i < 9223372036854775807 by omega)
  have hs8 := (good_few hG.1).1
  (refine goS ?_ <;> repeat (intro _ <;> refine goS ?_))
  repeat' ((refine bnS (fun hr h => ?_) (fun hr h => ?_) <;> first | (exfalso; omega) | ((refine goS ?_ <;> repeat (intro _ <;> refine goS ?_)))))
  (first | refine Pure.call (hS) ?_ | refine HCall.pure (hS) ?_) <;> (refine goS ?_ <;> repeat (intro _ <;> refine goS ?_))
  refine loop_st (S := Nat) (fun k => frL sts rs i incs lives (usedP ((sts.getD i default).allocs.take k)).flatten.length k)
    (fun k => ⟨6, (5, some ⟨1, rowsL fvI (usedP ((sts.getD i default).allocs.take k)).flatten, none⟩) :: (4, some ⟨3, [rowR (sumsR (usedR ((sts.getD i default).allocs.take k)))], none⟩) :: (3, some ⟨5, [(State.fv (sts.getD i default)).map FV.up], none⟩) :: esK c incs lives⟩)
    (fun k => k ≤ (sts.getD i default).allocs.length) (fun k => (sts.getD i default).allocs.length - k) 0
    ((Wk.phantom 14 1 rfl).trans (Wk.cut rfl ⟨⟨rfl, rfl⟩, ⟨rfl, rfl⟩, ⟨rfl, rfl⟩, ⟨rfl, rfl⟩, ⟨rfl, rfl⟩, ⟨rfl, rfl⟩, ⟨rfl, rfl⟩, ⟨rfl, rfl⟩, ⟨rfl, rfl⟩, ⟨rfl, rfl⟩, trivial⟩ ⟨⟨rfl, rfl, bd_rows rowsL_free, nofun⟩, ⟨rfl, rfl, row1 rfl, nofun⟩, ⟨rfl, rfl, row1 rfl, nofun⟩, ⟨rfl, rfl, bd_rows rowsL_free, nofun⟩, ⟨rfl, rfl, bd_rows rowsL_free, nofun⟩, ⟨rfl, rfl, row1 rfl, nofun⟩, trivial⟩))
    (Nat.zero_le _) ?_
  · intro k hk
    by_cases hk2 : k < (sts.getD i default).allocs.length
    · have hO := stateOver_p ((sts.getD i default).allocs.getD k default)
      have hu := usedR_snoc hk2
      have hv := usedP_snoc hk2
      have hw2 : Go.IntKind.i64.wrap ((k : Int) + 1) = ((k + 1 : Nat) : Int) := wrapS (show k < 9223372036854775807 by omega)
      have hpl := ports_len hG (k + 1)
      cases ho : overB ((sts.getD i default).allocs.getD k default)
      · rw [ho] at hO hu hv
        have hu' : usedR ((sts.getD i default).allocs.take (k + 1)) = usedR ((sts.getD i default).allocs.take k) ++ [((sts.getD i default).allocs.getD k default).spec.res] := by rw [hu]; simp
        have hv' : usedP ((sts.getD i default).allocs.take (k + 1)) = usedP ((sts.getD i default).allocs.take k) ++ [((sts.getD i default).allocs.getD k default).spec.ports] := by rw [hv]; simp
        have hfit := sums_take hG (k + 1)
        have hpos := sums_pos hfit.1
        have hle := hfit.2
        rw [hu', sumsR_snoc, hcap] at hle
        rw [hu', sumsR_snoc] at hpos
        unfold Res.le at hle
        dsimp only at hle hpos
        (refine goS ?_ <;> repeat (intro _ <;> refine goS ?_))
        repeat' ((refine bnS (fun hr h => ?_) (fun hr h => ?_) <;> first | (exfalso; omega) | ((refine goS ?_ <;> repeat (intro _ <;> refine goS ?_)))))
        (first | refine Pure.call (hO) ?_ | refine HCall.pure (hO) ?_) <;> (refine goS ?_ <;> repeat (intro _ <;> refine goS ?_))
        have e1 : wr ((sumsR (usedR ((sts.getD i default).allocs.take k))).cpu + ((sts.getD i default).allocs.getD k default).spec.res.cpu) = (sumsR (usedR ((sts.getD i default).allocs.take k))).cpu + ((sts.getD i default).allocs.getD k default).spec.res.cpu := wrap_id (by omega) (by omega)
        have e2 : wr ((sumsR (usedR ((sts.getD i default).allocs.take k))).mem + ((sts.getD i default).allocs.getD k default).spec.res.mem) = (sumsR (usedR ((sts.getD i default).allocs.take k))).mem + ((sts.getD i default).allocs.getD k default).spec.res.mem := wrap_id (by omega) (by omega)
        have e3 : wr ((sumsR (usedR ((sts.getD i default).allocs.take k))).disk + ((sts.getD i default).allocs.getD k default).spec.res.disk) = (sumsR (usedR ((sts.getD i default).allocs.take k))).disk + ((sts.getD i default).allocs.getD k default).spec.res.disk := wrap_id (by omega) (by omega)
        rw [hv', List.flatten_append, List.length_append, List.flatten_singleton] at hpl
        refine And.intro (And.intro (by rw [Nat.zero_add]; exact (List.length_map ..).symm) (And.intro (fun row hr y hy => by
            obtain ⟨q, _, rfl⟩ := List.mem_map.1 hr
            rw [List.mem_singleton.1 hy]; rfl) (by rw [List.length_map, List.length_range]; show (_ + ((sts.getD i default).allocs.getD k default).spec.ports.length) * 8 ≤ 140737488355328; omega))) ?_ <;> (refine goS ?_ <;> repeat (intro _ <;> refine goS ?_))
        exact ⟨k + 1, by omega, by omega, Wk.re (fun x => if x = 5 then 7 else x) rfl nofun (injL rfl) ⟨⟨rfl, rfl⟩, ⟨rfl, rfl⟩, ⟨rfl, rfl⟩, ⟨rfl, rfl⟩, ⟨rfl, rfl⟩, ⟨rfl, rfl⟩, ⟨rfl, rfl⟩, ⟨rfl, rfl⟩, ⟨by rw [hv', List.flatten_append, List.length_append, List.flatten_singleton, List.length_map, List.length_range]; rfl, rfl⟩, ⟨congrArg I hw2, rfl⟩, trivial⟩
          ⟨⟨rfl, _, rfl, .inl ⟨by rw [hv', List.flatten_append, List.flatten_singleton]; exact rowsL_app2, rowsL_free⟩, nofun⟩, ⟨rfl, _, rfl, .inl ⟨by rw [hu', sumsR_snoc, ← e1, ← e2, ← e3]; rfl, free1 rfl⟩, nofun⟩, ⟨rfl, _, rfl, .inl ⟨rfl, free1 rfl⟩, nofun⟩, ⟨rfl, _, rfl, .inl ⟨rfl, rowsL_free⟩, nofun⟩, ⟨rfl, _, rfl, .inl ⟨rfl, rowsL_free⟩, nofun⟩, ⟨rfl, _, rfl, .inl ⟨rfl, free1 rfl⟩, nofun⟩, trivial⟩⟩
      · rw [ho] at hO hu hv
        have hu' : usedR ((sts.getD i default).allocs.take (k + 1)) = usedR ((sts.getD i default).allocs.take k) := by rw [hu]; simp
        have hv' : usedP ((sts.getD i default).allocs.take (k + 1)) = usedP ((sts.getD i default).allocs.take k) := by rw [hv]; simp
        (refine goS ?_ <;> repeat (intro _ <;> refine goS ?_))
        repeat' ((refine bnS (fun hr h => ?_) (fun hr h => ?_) <;> first | (exfalso; omega) | ((refine goS ?_ <;> repeat (intro _ <;> refine goS ?_)))))
        (first | refine Pure.call (hO) ?_ | refine HCall.pure (hO) ?_) <;> (refine goS ?_ <;> repeat (intro _ <;> refine goS ?_))
        exact ⟨k + 1, by omega, by omega, Wk.cut rfl ⟨⟨rfl, rfl⟩, ⟨rfl, rfl⟩, ⟨rfl, rfl⟩, ⟨rfl, rfl⟩, ⟨rfl, rfl⟩, ⟨rfl, rfl⟩, ⟨rfl, rfl⟩, ⟨rfl, rfl⟩, ⟨by rw [hv']; rfl, rfl⟩, ⟨congrArg I hw2, rfl⟩, trivial⟩ ⟨⟨by rw [hv']; rfl, rfl, bd_rows rowsL_free, nofun⟩, ⟨by rw [hu']; rfl, rfl, row1 rfl, nofun⟩, ⟨rfl, rfl, row1 rfl, nofun⟩, ⟨rfl, rfl, bd_rows rowsL_free, nofun⟩, ⟨rfl, rfl, bd_rows rowsL_free, nofun⟩, ⟨rfl, rfl, row1 rfl, nofun⟩, trivial⟩⟩
    · have htk : (sts.getD i default).allocs.take k = (sts.getD i default).allocs := List.take_of_length_le (by omega)
      have hnd := ports_apart hG
      rw [← htk] at hnd
      have hpl := ports_len hG k
      have hTw := twice_p (usedP ((sts.getD i default).allocs.take k)).flatten (by omega)
      rw [twice_n hnd] at hTw
      have hfit := (sums_take hG k).2
      unfold Res.le at hfit
      (refine goS ?_ <;> repeat (intro _ <;> refine goS ?_))
      repeat' ((refine bnS (fun hr h => ?_) (fun hr h => ?_) <;> first | (exfalso; omega) | ((refine goS ?_ <;> repeat (intro _ <;> refine goS ?_)))))
      (first | refine ACalls.deep (hTw) rfl (.cons (dth_rows (fv := fvI) (L := (usedP ((sts.getD i default).allocs.take k)).flatten) rfl rfl) .nil) ?_ | refine HCall.deep (hTw) rfl (.cons (dth_rows (fv := fvI) (L := (usedP ((sts.getD i default).allocs.take k)).flatten) rfl rfl) .nil) ?_) <;> (refine goS ?_ <;> repeat (intro _ <;> refine goS ?_))
      clear hTw hnd hfit hpl htk
      (refine bnS (fun hr h => ?_) (fun hr h => ?_) <;> first | (exact False.elim h) | ((refine goS ?_ <;> repeat (intro _ <;> refine goS ?_))))
      · have hin : incs = [] := List.eq_nil_of_length_eq_zero (by have := hI.li; omega)
        have hil : lives = [] := List.eq_nil_of_length_eq_zero (by have := hI.ll; omega)
        exact ⟨(i + 1, incs, lives), by dsimp only; omega, ⟨by dsimp only; omega, hI.ni, hI.nl, fun x hx => (by rw [hin] at hx; cases hx), fun x hx => (by rw [hil] at hx; cases hx), by rw [hin]; exact Nat.zero_le _, by rw [hil]; exact Nat.zero_le _⟩,
          Wk.cut rfl ⟨⟨rfl, rfl⟩, ⟨rfl, rfl⟩, ⟨rfl, rfl⟩, ⟨rfl, rfl⟩, ⟨rfl, rfl⟩, ⟨congrArg I hw1, rfl⟩, trivial⟩ ⟨⟨rfl, rfl, bd_rows rowsL_free, nofun⟩, ⟨rfl, rfl, bd_rows rowsL_free, nofun⟩, ⟨rfl, rfl, row1 rfl, nofun⟩, trivial⟩⟩
      have hi0 : ¬ i = 0 := h
      have hwj : Go.IntKind.i64.wrap ((i : Int) - 1) = ((i - 1 : Nat) : Int) := by rw [wrap_id (by omega) (by omega)]; omega
      have hwr : (Go.IntKind.i64.wrap ((i : Int) - 1)) < rs.length := by rw [hwj]; exact Int.ofNat_lt.2 (by omega)
      have hw0 : 0 ≤ (Go.IntKind.i64.wrap ((i : Int) - 1)) ∧ (Go.IntKind.i64.wrap ((i : Int) - 1)) < sts.length := by rw [hwj]; exact ⟨Int.natCast_nonneg _, Int.ofNat_lt.2 (by omega)⟩
      have hwn : (Go.IntKind.i64.wrap ((i : Int) - 1)).toNat = i - 1 := by rw [hwj]; exact Int.toNat_natCast _
      have hst := hT.step (i - 1) (by omega)
      have hGp := tale_good hc hT (i - 1) (by omega)
      rw [show i - 1 + 1 = i by omega] at hst
      have hmo := apply_mono (c := c) (s := sts.getD (i - 1) default) (r := rs.getD (i - 1) default) (by rw [hst])
      have hpla := placed_at (c := c) hGp.2 hst
      have hint := intent_at (c := c) hGp.2 hst
      rw [hst] at hmo
      obtain ⟨m1, m2, m3, m4⟩ := hmo
      dsimp only at m1 m2 m3 m4
      obtain ⟨hIle, hIni, hInl, hIbi, hIbl, hIli, hIll⟩ := hI
      rw [← hwn] at m1 m2 m3 m4 hpla hint hIbi hIbl
      have m2' : (sts.getD (Go.IntKind.i64.wrap ((i : Int) - 1)).toNat default).next ≤ (sts.getD i default).next := by rw [m2]; split <;> omega
      have m3' : (sts.getD (Go.IntKind.i64.wrap ((i : Int) - 1)).toNat default).lives ≤ (sts.getD i default).lives := by rw [m3]; split <;> omega
      have n2 : (rs.getD (Go.IntKind.i64.wrap ((i : Int) - 1)).toNat default).kind = 4 → (sts.getD i default).next = (sts.getD (Go.IntKind.i64.wrap ((i : Int) - 1)).toNat default).next + 1 := fun h => by rw [m2, if_pos h]
      have n3 : (rs.getD (Go.IntKind.i64.wrap ((i : Int) - 1)).toNat default).kind = 1 → (sts.getD i default).lives = (sts.getD (Go.IntKind.i64.wrap ((i : Int) - 1)).toNat default).lives + 1 := fun h => by rw [m3, if_pos h]
      clear m2 m3 hst
      have hFd := find_p (sts.getD i default)
      refine And.intro hw0 ?_ <;> (refine goS ?_ <;> repeat (intro _ <;> refine goS ?_))
      by_cases k1 : (rs.getD (Go.IntKind.i64.wrap ((i : Int) - 1)).toNat default).kind = 1
      · obtain ⟨q, q1, q2, q3⟩ := hpla k1
        have hF := hFd (rs.getD (Go.IntKind.i64.wrap ((i : Int) - 1)).toNat default).spec.id
        rw [q2] at hF
        have n3' := n3 k1
        clear hint hpla hFd n2 n3
        repeat' (first | (refine And.intro ⟨hw0.1, hwr⟩ ?_ <;> (refine goS ?_ <;> repeat (intro _ <;> refine goS ?_))) | ((refine bnS (fun hr h => ?_) (fun hr h => ?_) <;> first | (exfalso; omega) | ((refine goS ?_ <;> repeat (intro _ <;> refine goS ?_))))))
        (first | refine Pure.call (hF) ?_ | refine HCall.pure (hF) ?_) <;> (refine goS ?_ <;> repeat (intro _ <;> refine goS ?_))
        repeat' ((refine bnS (fun hr h => ?_) (fun hr h => ?_) <;> first | (exfalso; omega) | ((refine goS ?_ <;> repeat (intro _ <;> refine goS ?_)))))
        have hh : 0 + lives.length = (rowsL fvI lives).length ∧ oneRows [[I ((sts.getD i default).allocs.getD q default).life]] ∧ (lives.length + 1) * 8 ≤ 140737488355328 := ⟨by rw [List.length_map, Nat.zero_add], oneRows_of rfl, by omega⟩
        refine And.intro hh ?_ <;> (refine goS ?_ <;> repeat (intro _ <;> refine goS ?_))
        repeat' ((refine bnS (fun hr h => ?_) (fun hr h => ?_) <;> first | (exfalso; omega) | ((refine goS ?_ <;> repeat (intro _ <;> refine goS ?_)))))
        exact ⟨(i + 1, incs, lives ++ [((sts.getD i default).allocs.getD q default).life]), by dsimp only; omega,
          ⟨by dsimp only; omega, hIni, nodup_snoc hInl (fun hx => by have := hIbl _ hx; omega), fun x hx => (by have := hIbi x hx; show x < (sts.getD i default).next; omega), fun x hx => (by
            show x < (sts.getD i default).lives
            rcases List.mem_append.1 hx with hx | hx
            · have := hIbl x hx; omega
            · rw [List.mem_singleton.1 hx]; omega), by dsimp only; omega, by dsimp only; rw [List.length_append]; simp; omega⟩,
          Wk.re (fun x => if x = 2 then 9 else x) rfl nofun (injL rfl) ⟨⟨rfl, rfl⟩, ⟨rfl, rfl⟩, ⟨rfl, rfl⟩, ⟨rfl, rfl⟩, ⟨by rw [List.length_append]; rfl, rfl⟩, ⟨congrArg I hw1, rfl⟩, trivial⟩
            ⟨⟨rfl, _, rfl, .inl ⟨rowsL_snoc.symm, rowsL_free⟩, nofun⟩, ⟨rfl, _, rfl, .inl ⟨rfl, rowsL_free⟩, nofun⟩, ⟨rfl, _, rfl, .inl ⟨rfl, free1 rfl⟩, nofun⟩, trivial⟩⟩
      by_cases k4 : (rs.getD (Go.IntKind.i64.wrap ((i : Int) - 1)).toNat default).kind = 4
      · obtain ⟨q, u, q1, q2, q3, q4, q5⟩ := hint k4
        have hF := hFd (rs.getD (Go.IntKind.i64.wrap ((i : Int) - 1)).toNat default).id
        rw [q2] at hF
        have n2' := n2 k4
        have hu : (rs.getD (Go.IntKind.i64.wrap ((i : Int) - 1)).toNat default).task.toNat = u := by omega
        clear hint hpla hFd n2 n3
        repeat' (first | (refine And.intro ⟨hw0.1, hwr⟩ ?_ <;> (refine goS ?_ <;> repeat (intro _ <;> refine goS ?_))) | ((refine bnS (fun hr h => ?_) (fun hr h => ?_) <;> first | (exfalso; omega) | ((refine goS ?_ <;> repeat (intro _ <;> refine goS ?_))))))
        (first | refine Pure.call (hF) ?_ | refine HCall.pure (hF) ?_) <;> (refine goS ?_ <;> repeat (intro _ <;> refine goS ?_))
        repeat' ((refine bnS (fun hr h => ?_) (fun hr h => ?_) <;> first | (exfalso; omega) | ((refine goS ?_ <;> repeat (intro _ <;> refine goS ?_)))))
        refine And.intro ⟨by omega, by rw [toNat_nat]; omega⟩ ?_ <;> (refine goS ?_ <;> repeat (intro _ <;> refine goS ?_))
        have hh : 0 + incs.length = (rowsL fvI incs).length ∧ oneRows [[I (((sts.getD i default).allocs.getD q default).tasks.getD (rs.getD (Go.IntKind.i64.wrap ((i : Int) - 1)).toNat default).task.toNat default).inc]] ∧ (incs.length + 1) * 8 ≤ 140737488355328 := ⟨by rw [List.length_map, Nat.zero_add], oneRows_of rfl, by omega⟩
        refine And.intro hh ?_ <;> (refine goS ?_ <;> repeat (intro _ <;> refine goS ?_))
        rw [← hu] at q5
        exact ⟨(i + 1, incs ++ [(((sts.getD i default).allocs.getD q default).tasks.getD (rs.getD (Go.IntKind.i64.wrap ((i : Int) - 1)).toNat default).task.toNat default).inc], lives), by dsimp only; omega,
          ⟨by dsimp only; omega, nodup_snoc hIni (fun hx => by have := hIbi _ hx; omega), hInl, fun x hx => (by
            show x < (sts.getD i default).next
            rcases List.mem_append.1 hx with hx | hx
            · have := hIbi x hx; omega
            · rw [List.mem_singleton.1 hx]; omega), fun x hx => (by have := hIbl x hx; show x < (sts.getD i default).lives; omega), by dsimp only; rw [List.length_append]; simp; omega, by dsimp only; omega⟩,
          Wk.re (fun x => if x = 1 then 9 else x) rfl nofun (injL rfl) ⟨⟨rfl, rfl⟩, ⟨rfl, rfl⟩, ⟨rfl, rfl⟩, ⟨by rw [List.length_append]; rfl, rfl⟩, ⟨rfl, rfl⟩, ⟨congrArg I hw1, rfl⟩, trivial⟩
            ⟨⟨rfl, _, rfl, .inl ⟨rfl, rowsL_free⟩, nofun⟩, ⟨rfl, _, rfl, .inl ⟨rowsL_snoc.symm, rowsL_free⟩, nofun⟩, ⟨rfl, _, rfl, .inl ⟨rfl, free1 rfl⟩, nofun⟩, trivial⟩⟩
      clear hint hpla hFd n2 n3
      repeat' (first | (refine And.intro ⟨hw0.1, hwr⟩ ?_ <;> (refine goS ?_ <;> repeat (intro _ <;> refine goS ?_))) | ((refine bnS (fun hr h => ?_) (fun hr h => ?_) <;> first | (exfalso; omega) | ((refine goS ?_ <;> repeat (intro _ <;> refine goS ?_))))))
      exact ⟨(i + 1, incs, lives), by dsimp only; omega, ⟨by dsimp only; omega, hIni, hInl, fun x hx => (by have := hIbi x hx; show x < (sts.getD i default).next; omega), fun x hx => (by have := hIbl x hx; show x < (sts.getD i default).lives; omega), by dsimp only; omega, by dsimp only; omega⟩,
          Wk.cut rfl ⟨⟨rfl, rfl⟩, ⟨rfl, rfl⟩, ⟨rfl, rfl⟩, ⟨rfl, rfl⟩, ⟨rfl, rfl⟩, ⟨congrArg I hw1, rfl⟩, trivial⟩ ⟨⟨rfl, rfl, bd_rows rowsL_free, nofun⟩, ⟨rfl, rfl, bd_rows rowsL_free, nofun⟩, ⟨rfl, rfl, row1 rfl, nofun⟩, trivial⟩⟩
end Go.Proofs.YtdblhmpcilihnaaGreat
