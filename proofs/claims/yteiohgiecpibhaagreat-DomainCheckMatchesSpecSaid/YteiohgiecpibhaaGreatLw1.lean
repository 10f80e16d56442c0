/- For all domains, Check returns the specified error. No conditions. -/
import Derived.Test.YteiohgiecpibhaaGreatXP
import Derived.Test.YteiohgiecpibhaaGreatXO
namespace Go.Proofs.YteiohgiecpibhaaGreat

theorem law3.proved : Rows.DomainCheckMatchesSpecSaid := law3.provedOf ruOk_ex
#print axioms law3.proved
end Go.Proofs.YteiohgiecpibhaaGreat
