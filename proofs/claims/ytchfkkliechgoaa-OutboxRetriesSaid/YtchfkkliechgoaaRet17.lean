/- OutboxRetries, the plain law: what a notice's sendings do. SHORT NORMX -/
import Derived.Test.YtchfkkliechgoaaNb17
namespace Go.Proofs.Ytchfkkliechgoaa
open Go.RowKit Go.Proofs.YtchfkkliechgoaaE
set_option linter.unusedSimpArgs false
set_option linter.unusedVariables false
set_option maxRecDepth 4000

theorem back_one {p : Pol} (h : goodP p = true) : backP p 1 = p.retryBase := by
  have h2 := (good_fine h).retryCap
  have h3 : ((1 : Int) - 1).toNat = 0 := by omega
  simp only [backP, h, if_true, h3, dbl]
  omega
theorem back_step {p : Pol} (h : goodP p = true) {att : Int} (ha : 1 ≤ att) : backP p (att + 1) = min (2 * backP p att) p.retryCap := by
  have h1 := (good_fine h).retryBase
  have h2 := (good_fine h).retryCap
  have h3 : (att + 1 - 1).toNat = (att - 1).toNat + 1 := by omega
  simp only [backP, h, if_true, h3, dbl]
  omega
theorem back_pos {p : Pol} (h : goodP p = true) {att : Int} : 1 ≤ backP p att := by
  have h1 := (good_fine h).retryBase
  have h2 := (good_fine h).retryCap
  have h3 := (dbl_mono (b := p.retryBase) (m := 0) (n := (att - 1).toNat) (by omega) (Nat.zero_le _)).1
  simp only [dbl] at h3
  simp only [backP, h, if_true]
  omega
/-- Where the sendings of one notice stand at tick k. -/
inductive RetAt (p : Pol) (id : Int) (body : List Int) (start ack k next gap : Int) : List Ep → Prop
  | live (att : Int) (hk : k ≤ next) (hg : gap = backP p (att + 1)) (ha : 0 ≤ att ∧ att ≤ k) (hn : next ≤ k + 64) : RetAt p id body start ack k next gap [⟨id, att, start + next, body⟩]
  | dead (hn : next = -1) (hk : ack < k) (hg : 0 ≤ gap ∧ gap ≤ 64) : RetAt p id body start ack k next gap []
theorem later_small {now wait : Int} (h1 : now ≤ 1000000000) (h2 : wait ≤ 64) : laterP now wait = now + wait := by
  rw [laterP, if_neg (by omega)]
theorem ret_wait {p : Pol} {id : Int} {body : List Int} {start k next att : Int} (h : k < next) : duePk (start + k) [⟨id, att, start + next, body⟩] = [] ∧ [(⟨id, att, start + next, body⟩ : Ep)].map (duP p (start + k)) = [⟨id, att, start + next, body⟩] := by
  constructor
  · rw [duePk, List.filter_cons_of_neg (by simp; omega)]
    rfl
  · rw [List.map_cons, duP, if_neg (by show ¬ start + next ≤ start + k; omega)]
    rfl
theorem ret_send {p : Pol} {id : Int} {body : List Int} {start k att : Int} (h : start + k ≤ 1000000000) : duePk (start + k) [⟨id, att, start + k, body⟩] = [(id, body)] ∧ [(⟨id, att, start + k, body⟩ : Ep)].map (duP p (start + k)) = [⟨id, att + 1, start + (k + backP p (att + 1)), body⟩] := by
  have hb := back_rng p (att + 1)
  constructor
  · rw [duePk, List.filter_cons_of_pos (by simp)]
    rfl
  · rw [List.map_cons, duP, if_pos (by show start + k ≤ start + k; omega), sentP, later_small h hb.2, Int.add_assoc]
    rfl
end Go.Proofs.Ytchfkkliechgoaa
