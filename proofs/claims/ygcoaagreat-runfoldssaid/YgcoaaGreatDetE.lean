/-
  One answer in every memory: packages soft, so, expand, hexa, dec.
-/
import Derived.Test.YgcoaaGreatDetD
import Derived.Test.YgcoaaGreatDecB
import Derived.Test.YgcoaaGreatDecD
import Derived.Test.YgcoaaGreatExpG
import Derived.Test.YgcoaaGreatHexA
import Derived.Test.YgcoaaGreatSoA
import Derived.Test.YgcoaaGreatSoB
import Derived.Test.YgcoaaGreatSoCb
import Derived.Test.YgcoaaGreatSoE
import Derived.Test.YgcoaaGreatSoF
import Derived.Test.YgcoaaGreatSoftB
import Derived.Test.YgcoaaGreatSoftO
import Derived.Test.YgcoaaGreatSoftP
import Derived.Test.YgcoaaGreatSoftQ
import Derived.Test.YgcoaaGreatSoftQb
import Derived.Test.YgcoaaGreatSoftR
import Derived.Test.YgcoaaGreatSoftS
import Derived.Test.YgcoaaGreatSoftU
import Derived.Test.YgcoaaGreatSoftV
import Derived.Test.YgcoaaGreatSoftW
import Derived.Test.YgcoaaGreatSoftWb
import Derived.Test.YgcoaaGreatSoftX
import Derived.Test.YgcoaaGreatSoftY
import Derived.Test.YgcoaaGreatSoftZ
set_option linter.unusedVariables false
set_option linter.unusedSimpArgs false
set_option maxRecDepth 20000
namespace Go.Proofs.YgcoaaGreat.Det
open Go Go.RowKit Go.Proofs.YgcoaaGreat.NatW Go.Proofs.Oaag.Twn Go.Proofs.YgcoaaGreat.Limbs Go.Proofs.YgcoaaGreat.Bits

theorem convert_det (E M : Nat) (hf : fok E M = true) (G N : Nat) (hg : fok G N = true) (m a : Int) (ha : U64 a) : ∃ v, (fun v => ∃ r, v = .int .u64 r ∧ Snd G N r) v ∧ DR 101 (argsAt [.v (fmt E M), .v (fmt G N), .v (.int .u8 m), .v (.int .u64 a)]) v :=
  detQ [.v (fmt E M), .v (fmt G N), .v (.int .u8 m), .v (.int .u64 a)] 4 (by decide) rfl (by kernel_rfl) (by kernel_rfl) (by simp [Arg.ok, selfV, selfC, fmt]) (convert_ret E M hf G N hg m a ha) (by rintro v hv; first | (obtain ⟨_, rfl⟩ := hv; rfl) | (obtain ⟨_, rfl, _⟩ := hv; rfl) | (obtain ⟨_, _, rfl⟩ := hv; rfl) | (obtain ⟨_, _, rfl, _⟩ := hv; rfl))

theorem clean_det (E M : Nat) (hf : fok E M = true) (a : Int) (ha : U64 a) : ∃ v, (fun v => ∃ r, v = .int .u64 r ∧ Snd E M r) v ∧ DR 134 (argsAt [.v (fmt E M), .v (.int .u64 a)]) v :=
  detQ [.v (fmt E M), .v (.int .u64 a)] 2 (by decide) rfl (by kernel_rfl) (by kernel_rfl) (by simp [Arg.ok, selfV, selfC, fmt]) (clean_ret E M hf a ha) (by rintro v hv; first | (obtain ⟨_, rfl⟩ := hv; rfl) | (obtain ⟨_, rfl, _⟩ := hv; rfl) | (obtain ⟨_, _, rfl⟩ := hv; rfl) | (obtain ⟨_, _, rfl, _⟩ := hv; rfl))

theorem add_det (E M : Nat) (hf : fok E M = true) (m a b : Int) (ha : U64 a) (hb : U64 b) : ∃ v, (fun v => ∃ r, v = .int .u64 r ∧ Snd E M r) v ∧ DR 135 (argsAt [.v (fmt E M), .v (.int .u8 m), .v (.int .u64 a), .v (.int .u64 b)]) v :=
  detQ [.v (fmt E M), .v (.int .u8 m), .v (.int .u64 a), .v (.int .u64 b)] 4 (by decide) rfl (by kernel_rfl) (by kernel_rfl) (by simp [Arg.ok, selfV, selfC, fmt]) (add_ret E M hf m a b ha hb) (by rintro v hv; first | (obtain ⟨_, rfl⟩ := hv; rfl) | (obtain ⟨_, rfl, _⟩ := hv; rfl) | (obtain ⟨_, _, rfl⟩ := hv; rfl) | (obtain ⟨_, _, rfl, _⟩ := hv; rfl))

theorem ssub_det (E M : Nat) (hf : fok E M = true) (m a b : Int) (ha : U64 a) (hb : U64 b) : ∃ v, (fun v => ∃ r, v = .int .u64 r ∧ Snd E M r) v ∧ DR 136 (argsAt [.v (fmt E M), .v (.int .u8 m), .v (.int .u64 a), .v (.int .u64 b)]) v :=
  detQ [.v (fmt E M), .v (.int .u8 m), .v (.int .u64 a), .v (.int .u64 b)] 4 (by decide) rfl (by kernel_rfl) (by kernel_rfl) (by simp [Arg.ok, selfV, selfC, fmt]) (ssub_ret E M hf m a b ha hb) (by rintro v hv; first | (obtain ⟨_, rfl⟩ := hv; rfl) | (obtain ⟨_, rfl, _⟩ := hv; rfl) | (obtain ⟨_, _, rfl⟩ := hv; rfl) | (obtain ⟨_, _, rfl, _⟩ := hv; rfl))

theorem mul_det (E M : Nat) (hf : fok E M = true) (m a b : Int) (ha : U64 a) (hb : U64 b) : ∃ v, (fun v => ∃ r, v = .int .u64 r ∧ Snd E M r) v ∧ DR 137 (argsAt [.v (fmt E M), .v (.int .u8 m), .v (.int .u64 a), .v (.int .u64 b)]) v :=
  detQ [.v (fmt E M), .v (.int .u8 m), .v (.int .u64 a), .v (.int .u64 b)] 4 (by decide) rfl (by kernel_rfl) (by kernel_rfl) (by simp [Arg.ok, selfV, selfC, fmt]) (mul_ret E M hf m a b ha hb) (by rintro v hv; first | (obtain ⟨_, rfl⟩ := hv; rfl) | (obtain ⟨_, rfl, _⟩ := hv; rfl) | (obtain ⟨_, _, rfl⟩ := hv; rfl) | (obtain ⟨_, _, rfl, _⟩ := hv; rfl))

theorem div_det (E M : Nat) (hf : fok E M = true) (m a b : Int) (ha : U64 a) (hb : U64 b) : ∃ v, (fun v => ∃ r, v = .int .u64 r ∧ Snd E M r) v ∧ DR 138 (argsAt [.v (fmt E M), .v (.int .u8 m), .v (.int .u64 a), .v (.int .u64 b)]) v :=
  detQ [.v (fmt E M), .v (.int .u8 m), .v (.int .u64 a), .v (.int .u64 b)] 4 (by decide) rfl (by kernel_rfl) (by kernel_rfl) (by simp [Arg.ok, selfV, selfC, fmt]) (div_ret1 E M hf m a b ha hb) (by rintro v hv; first | (obtain ⟨_, rfl⟩ := hv; rfl) | (obtain ⟨_, rfl, _⟩ := hv; rfl) | (obtain ⟨_, _, rfl⟩ := hv; rfl) | (obtain ⟨_, _, rfl, _⟩ := hv; rfl))

theorem sqrt_det (E M : Nat) (hf : fok E M = true) (m a : Int) (ha : U64 a) : ∃ v, (fun v => ∃ r, v = .int .u64 r ∧ Snd E M r) v ∧ DR 139 (argsAt [.v (fmt E M), .v (.int .u8 m), .v (.int .u64 a)]) v :=
  detQ [.v (fmt E M), .v (.int .u8 m), .v (.int .u64 a)] 3 (by decide) rfl (by kernel_rfl) (by kernel_rfl) (by simp [Arg.ok, selfV, selfC, fmt]) (sqrt_ret E M hf m a ha) (by rintro v hv; first | (obtain ⟨_, rfl⟩ := hv; rfl) | (obtain ⟨_, rfl, _⟩ := hv; rfl) | (obtain ⟨_, _, rfl⟩ := hv; rfl) | (obtain ⟨_, _, rfl, _⟩ := hv; rfl))

theorem order_det (r : Int) : ∃ v, (fun v => ∃ s, v = .string s ∧ s.size ≤ 5) v ∧ DR 140 (argsAt [.v (.int .i8 r)]) v :=
  detQ [.v (.int .i8 r)] 1 (by decide) rfl (by kernel_rfl) (by kernel_rfl) (by simp [Arg.ok, selfV, selfC, fmt]) (order_ret r) (by rintro v hv; first | (obtain ⟨_, rfl⟩ := hv; rfl) | (obtain ⟨_, rfl, _⟩ := hv; rfl) | (obtain ⟨_, _, rfl⟩ := hv; rfl) | (obtain ⟨_, _, rfl, _⟩ := hv; rfl))

theorem cmp_det (E M : Nat) (hf : fok E M = true) (a b : Int) (ha : U64 a) (hb : U64 b) : ∃ v, (fun v => ∃ r, v = .int .i8 r) v ∧ DR 141 (argsAt [.v (fmt E M), .v (.int .u64 a), .v (.int .u64 b)]) v :=
  detQ [.v (fmt E M), .v (.int .u64 a), .v (.int .u64 b)] 3 (by decide) rfl (by kernel_rfl) (by kernel_rfl) (by simp [Arg.ok, selfV, selfC, fmt]) (cmp_ret E M hf a b ha hb) (by rintro v hv; first | (obtain ⟨_, rfl⟩ := hv; rfl) | (obtain ⟨_, rfl, _⟩ := hv; rfl) | (obtain ⟨_, _, rfl⟩ := hv; rfl) | (obtain ⟨_, _, rfl, _⟩ := hv; rfl))

theorem fromI_det (E M : Nat) (hf : fok E M = true) (m a : Int) : ∃ v, (fun v => ∃ r, v = .int .u64 r ∧ Snd E M r) v ∧ DR 142 (argsAt [.v (fmt E M), .v (.int .u8 m), .v (.int .i64 a)]) v :=
  detQ [.v (fmt E M), .v (.int .u8 m), .v (.int .i64 a)] 3 (by decide) rfl (by kernel_rfl) (by kernel_rfl) (by simp [Arg.ok, selfV, selfC, fmt]) (fromI_ret E M hf m a) (by rintro v hv; first | (obtain ⟨_, rfl⟩ := hv; rfl) | (obtain ⟨_, rfl, _⟩ := hv; rfl) | (obtain ⟨_, _, rfl⟩ := hv; rfl) | (obtain ⟨_, _, rfl, _⟩ := hv; rfl))

theorem fromU_det (E M : Nat) (hf : fok E M = true) (m a : Int) (ha : U64 a) : ∃ v, (fun v => ∃ r, v = .int .u64 r ∧ Snd E M r) v ∧ DR 143 (argsAt [.v (fmt E M), .v (.int .u8 m), .v (.int .u64 a)]) v :=
  detQ [.v (fmt E M), .v (.int .u8 m), .v (.int .u64 a)] 3 (by decide) rfl (by kernel_rfl) (by kernel_rfl) (by simp [Arg.ok, selfV, selfC, fmt]) (fromU_ret E M hf m a ha) (by rintro v hv; first | (obtain ⟨_, rfl⟩ := hv; rfl) | (obtain ⟨_, rfl, _⟩ := hv; rfl) | (obtain ⟨_, _, rfl⟩ := hv; rfl) | (obtain ⟨_, _, rfl, _⟩ := hv; rfl))

theorem sotoInt_det (E M : Nat) (hf : fok E M = true) (a : Int) (ha : U64 a) : ∃ v, (fun v => ∃ s : ByteArray, v = .string s ∧ s.size ≤ 300000) v ∧ DR 144 (argsAt [.v (fmt E M), .v (.int .u64 a)]) v :=
  detQ [.v (fmt E M), .v (.int .u64 a)] 2 (by decide) rfl (by kernel_rfl) (by kernel_rfl) (by simp [Arg.ok, selfV, selfC, fmt]) (sotoInt_ret E M hf a ha) (by rintro v hv; first | (obtain ⟨_, rfl⟩ := hv; rfl) | (obtain ⟨_, rfl, _⟩ := hv; rfl) | (obtain ⟨_, _, rfl⟩ := hv; rfl) | (obtain ⟨_, _, rfl, _⟩ := hv; rfl))

theorem digitsE_det (E M : Nat) (hf : fok E M = true) (x p : Int) (hx : U64 x) (hp0 : 0 ≤ p) (hp1 : p ≤ 2000) : ∃ v, (fun v => ∃ s e, v = .tuple #[.string s, .int .i16 e] ∧ s.size ≤ 6000 ∧ -32768 ≤ e ∧ e ≤ 32767) v ∧ DR 177 (argsAt [.v (fmt E M), .v (.int .u64 x), .v (.int .u16 p)]) v :=
  detQ [.v (fmt E M), .v (.int .u64 x), .v (.int .u16 p)] 3 (by decide) rfl (by kernel_rfl) (by kernel_rfl) (by simp [Arg.ok, selfV, selfC, fmt]) (digitsE_ret E M hf x p hx hp0 hp1) (by rintro v hv; first | (obtain ⟨_, rfl⟩ := hv; rfl) | (obtain ⟨_, rfl, _⟩ := hv; rfl) | (obtain ⟨_, _, rfl⟩ := hv; rfl) | (obtain ⟨_, _, rfl, _⟩ := hv; rfl))

theorem digitsF_det (E M : Nat) (hf : fok E M = true) (x p : Int) (hx : U64 x) (hp0 : 0 ≤ p) (hp1 : p ≤ 2000) : ∃ v, (fun v => ∃ s, v = .string s ∧ s.size ≤ 6000) v ∧ DR 179 (argsAt [.v (fmt E M), .v (.int .u64 x), .v (.int .u16 p)]) v :=
  detQ [.v (fmt E M), .v (.int .u64 x), .v (.int .u16 p)] 3 (by decide) rfl (by kernel_rfl) (by kernel_rfl) (by simp [Arg.ok, selfV, selfC, fmt]) (digitsF_ret E M hf x p hx hp0 hp1) (by rintro v hv; first | (obtain ⟨_, rfl⟩ := hv; rfl) | (obtain ⟨_, rfl, _⟩ := hv; rfl) | (obtain ⟨_, _, rfl⟩ := hv; rfl) | (obtain ⟨_, _, rfl, _⟩ := hv; rfl))

theorem hexText_det (E M : Nat) (hf : fok E M = true) (x : Int) (hx : U64 x) : ∃ v, (fun v => ∃ s, v = .string s ∧ s.size ≤ 200) v ∧ DR 181 (argsAt [.v (fmt E M), .v (.int .u64 x)]) v :=
  detQ [.v (fmt E M), .v (.int .u64 x)] 2 (by decide) rfl (by kernel_rfl) (by kernel_rfl) (by simp [Arg.ok, selfV, selfC, fmt]) (hexText_ret E M hf x hx) (by rintro v hv; first | (obtain ⟨_, rfl⟩ := hv; rfl) | (obtain ⟨_, rfl, _⟩ := hv; rfl) | (obtain ⟨_, _, rfl⟩ := hv; rfl) | (obtain ⟨_, _, rfl, _⟩ := hv; rfl))

theorem scaleBFlags_det (E M : Nat) (hf : fok E M = true) (m a n : Int) (ha : U64 a) : ∃ v, (fun v => ∃ r f, v = .tuple #[.int .u64 r, .int .u8 f] ∧ Snd E M r) v ∧ DR 185 (argsAt [.v (fmt E M), .v (.int .u8 m), .v (.int .u64 a), .v (.int .i64 n)]) v :=
  detQ [.v (fmt E M), .v (.int .u8 m), .v (.int .u64 a), .v (.int .i64 n)] 4 (by decide) rfl (by kernel_rfl) (by kernel_rfl) (by simp [Arg.ok, selfV, selfC, fmt]) (scaleBFlags_ret E M hf m a n ha) (by rintro v hv; first | (obtain ⟨_, rfl⟩ := hv; rfl) | (obtain ⟨_, rfl, _⟩ := hv; rfl) | (obtain ⟨_, _, rfl⟩ := hv; rfl) | (obtain ⟨_, _, rfl, _⟩ := hv; rfl))

theorem flagText_det (f : Int) : ∃ v, (fun v => ∃ s, v = .string s ∧ s.size ≤ 5) v ∧ DR 237 (argsAt [.v (.int .u8 f)]) v :=
  detQ [.v (.int .u8 f)] 1 (by decide) rfl (by kernel_rfl) (by kernel_rfl) (by simp [Arg.ok, selfV, selfC, fmt]) (flagText_any f) (by rintro v hv; first | (obtain ⟨_, rfl⟩ := hv; rfl) | (obtain ⟨_, rfl, _⟩ := hv; rfl) | (obtain ⟨_, _, rfl⟩ := hv; rfl) | (obtain ⟨_, _, rfl, _⟩ := hv; rfl))

theorem whole_det (i : Int) (h1 : -9223372036854775808 ≤ i) (h2 : i ≤ 9223372036854775807) (ok : Bool) : ∃ v, (fun v => ∃ s : ByteArray, v = .string s ∧ s.size ≤ 20) v ∧ DR 253 (argsAt [.v (.int .i64 i), .v (.bool ok)]) v :=
  detQ [.v (.int .i64 i), .v (.bool ok)] 2 (by decide) rfl (by kernel_rfl) (by kernel_rfl) (by simp [Arg.ok, selfV, selfC, fmt]) (whole_ret i h1 h2 ok) (by rintro v hv; first | (obtain ⟨_, rfl⟩ := hv; rfl) | (obtain ⟨_, rfl, _⟩ := hv; rfl) | (obtain ⟨_, _, rfl⟩ := hv; rfl) | (obtain ⟨_, _, rfl, _⟩ := hv; rfl))

theorem orName_det (E M : Nat) (hf : fok E M = true) (a : Int) (ha : U64 a) (s : ByteArray) (hs : s.size ≤ 300000) : ∃ v, (fun v => ∃ s : ByteArray, v = .string s ∧ s.size ≤ 300000) v ∧ DR 256 (argsAt [.v (fmt E M), .v (.int .u64 a), .v (.string s)]) v :=
  detQ [.v (fmt E M), .v (.int .u64 a), .v (.string s)] 3 (by decide) rfl (by kernel_rfl) (by kernel_rfl) (by simp [Arg.ok, selfV, selfC, fmt]) (orName_sz E M hf a ha s hs) (by rintro v hv; first | (obtain ⟨_, rfl⟩ := hv; rfl) | (obtain ⟨_, rfl, _⟩ := hv; rfl) | (obtain ⟨_, _, rfl⟩ := hv; rfl) | (obtain ⟨_, _, rfl, _⟩ := hv; rfl))

theorem fma_det (E M : Nat) (hf : fok E M = true) (m a b k : Int) (ha : U64 a) (hb : U64 b) (hk : U64 k) : ∃ v, (fun v => ∃ r, v = .int .u64 r ∧ Snd E M r) v ∧ DR 257 (argsAt [.v (fmt E M), .v (.int .u8 m), .v (.int .u64 a), .v (.int .u64 b), .v (.int .u64 k)]) v :=
  detQ [.v (fmt E M), .v (.int .u8 m), .v (.int .u64 a), .v (.int .u64 b), .v (.int .u64 k)] 5 (by decide) rfl (by kernel_rfl) (by kernel_rfl) (by simp [Arg.ok, selfV, selfC, fmt]) (fma_ret E M hf m a b k ha hb hk) (by rintro v hv; first | (obtain ⟨_, rfl⟩ := hv; rfl) | (obtain ⟨_, rfl, _⟩ := hv; rfl) | (obtain ⟨_, _, rfl⟩ := hv; rfl) | (obtain ⟨_, _, rfl, _⟩ := hv; rfl))

theorem rem_det (E M : Nat) (hf : fok E M = true) (a b : Int) (ha : U64 a) (hb : U64 b) : ∃ v, (fun v => ∃ r, v = .int .u64 r ∧ Snd E M r) v ∧ DR 258 (argsAt [.v (fmt E M), .v (.int .u64 a), .v (.int .u64 b)]) v :=
  detQ [.v (fmt E M), .v (.int .u64 a), .v (.int .u64 b)] 3 (by decide) rfl (by kernel_rfl) (by kernel_rfl) (by simp [Arg.ok, selfV, selfC, fmt]) (rem_ret E M hf a b ha hb) (by rintro v hv; first | (obtain ⟨_, rfl⟩ := hv; rfl) | (obtain ⟨_, rfl, _⟩ := hv; rfl) | (obtain ⟨_, _, rfl⟩ := hv; rfl) | (obtain ⟨_, _, rfl, _⟩ := hv; rfl))

theorem roundInt_det (E M : Nat) (hf : fok E M = true) (m a : Int) (ha : U64 a) : ∃ v, (fun v => ∃ r, v = .int .u64 r ∧ Snd E M r) v ∧ DR 259 (argsAt [.v (fmt E M), .v (.int .u8 m), .v (.int .u64 a)]) v :=
  detQ [.v (fmt E M), .v (.int .u8 m), .v (.int .u64 a)] 3 (by decide) rfl (by kernel_rfl) (by kernel_rfl) (by simp [Arg.ok, selfV, selfC, fmt]) (roundInt_ret E M hf m a ha) (by rintro v hv; first | (obtain ⟨_, rfl⟩ := hv; rfl) | (obtain ⟨_, rfl, _⟩ := hv; rfl) | (obtain ⟨_, _, rfl⟩ := hv; rfl) | (obtain ⟨_, _, rfl, _⟩ := hv; rfl))

theorem min_det (E M : Nat) (hf : fok E M = true) (a b : Int) (ha : U64 a) (hb : U64 b) : ∃ v, (fun v => ∃ r, v = .int .u64 r ∧ Snd E M r) v ∧ DR 260 (argsAt [.v (fmt E M), .v (.int .u64 a), .v (.int .u64 b)]) v :=
  detQ [.v (fmt E M), .v (.int .u64 a), .v (.int .u64 b)] 3 (by decide) rfl (by kernel_rfl) (by kernel_rfl) (by simp [Arg.ok, selfV, selfC, fmt]) (min_ret E M hf a b ha hb) (by rintro v hv; first | (obtain ⟨_, rfl⟩ := hv; rfl) | (obtain ⟨_, rfl, _⟩ := hv; rfl) | (obtain ⟨_, _, rfl⟩ := hv; rfl) | (obtain ⟨_, _, rfl, _⟩ := hv; rfl))

theorem max_det (E M : Nat) (hf : fok E M = true) (a b : Int) (ha : U64 a) (hb : U64 b) : ∃ v, (fun v => ∃ r, v = .int .u64 r ∧ Snd E M r) v ∧ DR 261 (argsAt [.v (fmt E M), .v (.int .u64 a), .v (.int .u64 b)]) v :=
  detQ [.v (fmt E M), .v (.int .u64 a), .v (.int .u64 b)] 3 (by decide) rfl (by kernel_rfl) (by kernel_rfl) (by simp [Arg.ok, selfV, selfC, fmt]) (max_ret1 E M hf a b ha hb) (by rintro v hv; first | (obtain ⟨_, rfl⟩ := hv; rfl) | (obtain ⟨_, rfl, _⟩ := hv; rfl) | (obtain ⟨_, _, rfl⟩ := hv; rfl) | (obtain ⟨_, _, rfl, _⟩ := hv; rfl))

theorem nextUp_det (E M : Nat) (hf : fok E M = true) (a : Int) (ha : U64 a) : ∃ v, (fun v => ∃ r, v = .int .u64 r ∧ Snd E M r) v ∧ DR 262 (argsAt [.v (fmt E M), .v (.int .u64 a)]) v :=
  detQ [.v (fmt E M), .v (.int .u64 a)] 2 (by decide) rfl (by kernel_rfl) (by kernel_rfl) (by simp [Arg.ok, selfV, selfC, fmt]) (nextUp_ret1 E M hf a ha) (by rintro v hv; first | (obtain ⟨_, rfl⟩ := hv; rfl) | (obtain ⟨_, rfl, _⟩ := hv; rfl) | (obtain ⟨_, _, rfl⟩ := hv; rfl) | (obtain ⟨_, _, rfl, _⟩ := hv; rfl))

theorem nextDown_det (E M : Nat) (hf : fok E M = true) (a : Int) (ha : U64 a) : ∃ v, (fun v => ∃ r, v = .int .u64 r ∧ Snd E M r) v ∧ DR 263 (argsAt [.v (fmt E M), .v (.int .u64 a)]) v :=
  detQ [.v (fmt E M), .v (.int .u64 a)] 2 (by decide) rfl (by kernel_rfl) (by kernel_rfl) (by simp [Arg.ok, selfV, selfC, fmt]) (nextDown_ret1 E M hf a ha) (by rintro v hv; first | (obtain ⟨_, rfl⟩ := hv; rfl) | (obtain ⟨_, rfl, _⟩ := hv; rfl) | (obtain ⟨_, _, rfl⟩ := hv; rfl) | (obtain ⟨_, _, rfl, _⟩ := hv; rfl))

theorem flags_det (E M : Nat) (hf : fok E M = true) (m q a b k : Int) (ha : U64 a) (hb : U64 b) (hk : U64 k) : ∃ v, (fun v => ∃ f, v = .int .u8 f) v ∧ DR 264 (argsAt [.v (fmt E M), .v (.int .u8 m), .v (.int .u64 q), .v (.int .u64 a), .v (.int .u64 b), .v (.int .u64 k)]) v :=
  detQ [.v (fmt E M), .v (.int .u8 m), .v (.int .u64 q), .v (.int .u64 a), .v (.int .u64 b), .v (.int .u64 k)] 6 (by decide) rfl (by kernel_rfl) (by kernel_rfl) (by simp [Arg.ok, selfV, selfC, fmt]) (flags_ret E M hf m q a b k ha hb hk) (by rintro v hv; first | (obtain ⟨_, rfl⟩ := hv; rfl) | (obtain ⟨_, rfl, _⟩ := hv; rfl) | (obtain ⟨_, _, rfl⟩ := hv; rfl) | (obtain ⟨_, _, rfl, _⟩ := hv; rfl))

theorem scaleB_det (E M : Nat) (hf : fok E M = true) (m a n : Int) (ha : U64 a) : ∃ v, (fun v => ∃ r, v = .int .u64 r ∧ Snd E M r) v ∧ DR 270 (argsAt [.v (fmt E M), .v (.int .u8 m), .v (.int .u64 a), .v (.int .i64 n)]) v :=
  detQ [.v (fmt E M), .v (.int .u8 m), .v (.int .u64 a), .v (.int .i64 n)] 4 (by decide) rfl (by kernel_rfl) (by kernel_rfl) (by simp [Arg.ok, selfV, selfC, fmt]) (scaleB_ret E M hf m a n ha) (by rintro v hv; first | (obtain ⟨_, rfl⟩ := hv; rfl) | (obtain ⟨_, rfl, _⟩ := hv; rfl) | (obtain ⟨_, _, rfl⟩ := hv; rfl) | (obtain ⟨_, _, rfl, _⟩ := hv; rfl))

theorem logB_det (E M : Nat) (hf : fok E M = true) (a : Int) (ha : U64 a) : ∃ v, (fun v => ∃ r b, v = .tuple #[.int .i64 r, .bool b] ∧ I64 r) v ∧ DR 271 (argsAt [.v (fmt E M), .v (.int .u64 a)]) v :=
  detQ [.v (fmt E M), .v (.int .u64 a)] 2 (by decide) rfl (by kernel_rfl) (by kernel_rfl) (by simp [Arg.ok, selfV, selfC, fmt]) (logB_rng E M hf a ha) (by rintro v hv; first | (obtain ⟨_, rfl⟩ := hv; rfl) | (obtain ⟨_, rfl, _⟩ := hv; rfl) | (obtain ⟨_, _, rfl⟩ := hv; rfl) | (obtain ⟨_, _, rfl, _⟩ := hv; rfl))

theorem convFlags_det (E M : Nat) (hf : fok E M = true) (m q a : Int) (hq : U64 q) (ha : U64 a) : ∃ v, (fun v => ∃ f b, v = .tuple #[.int .u8 f, .bool b]) v ∧ DR 272 (argsAt [.v (fmt E M), .v (.int .u8 m), .v (.int .u64 q), .v (.int .u64 a)]) v :=
  detQ [.v (fmt E M), .v (.int .u8 m), .v (.int .u64 q), .v (.int .u64 a)] 4 (by decide) rfl (by kernel_rfl) (by kernel_rfl) (by simp [Arg.ok, selfV, selfC, fmt]) (convFlags_ret E M hf m q a hq ha) (by rintro v hv; first | (obtain ⟨_, rfl⟩ := hv; rfl) | (obtain ⟨_, rfl, _⟩ := hv; rfl) | (obtain ⟨_, _, rfl⟩ := hv; rfl) | (obtain ⟨_, _, rfl, _⟩ := hv; rfl))

theorem textE_det (n : Bool) (d : ByteArray) (hd : d.size ≤ 6000) (e : Int) (h1 : -32768 ≤ e) (h2 : e ≤ 32767) : ∃ v, (fun v => ∃ s : ByteArray, v = .string s ∧ s.size ≤ 300000) v ∧ DR 367 (argsAt [.v (.bool n), .v (.string d), .v (.int .i16 e)]) v :=
  detQ [.v (.bool n), .v (.string d), .v (.int .i16 e)] 3 (by decide) rfl (by kernel_rfl) (by kernel_rfl) (by simp [Arg.ok, selfV, selfC, fmt]) (textE_sz n d hd e h1 h2) (by rintro v hv; first | (obtain ⟨_, rfl⟩ := hv; rfl) | (obtain ⟨_, rfl, _⟩ := hv; rfl) | (obtain ⟨_, _, rfl⟩ := hv; rfl) | (obtain ⟨_, _, rfl, _⟩ := hv; rfl))

theorem decOk_det (n : Bool) (d : ByteArray) (e : Int) (h1 : -32768 ≤ e) (h2 : e ≤ 32767) (hd : d.size ≤ 1000000) : ∃ v, (fun v => ∃ b, v = .bool b ∧ (b = true ↔ Canon d e)) v ∧ DR 39 (argsAt [.v (.agg #[.bool n, .string d, .int .i16 e])]) v :=
  detQ [.v (.agg #[.bool n, .string d, .int .i16 e])] 1 (by decide) rfl (by kernel_rfl) (by kernel_rfl) (by simp [Arg.ok, selfV, selfC, fmt]) (decOk_ret n d e h1 h2 hd) (by rintro v hv; first | (obtain ⟨_, rfl⟩ := hv; rfl) | (obtain ⟨_, rfl, _⟩ := hv; rfl) | (obtain ⟨_, _, rfl⟩ := hv; rfl) | (obtain ⟨_, _, rfl, _⟩ := hv; rfl))

end Go.Proofs.YgcoaaGreat.Det
