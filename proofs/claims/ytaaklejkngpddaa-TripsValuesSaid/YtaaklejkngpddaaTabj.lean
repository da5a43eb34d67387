/- Left out here. -/
import Derived.Test.YtaaklejkngpddaaTabg
import Derived.Test.YtaaklejkngpddaaTabd
